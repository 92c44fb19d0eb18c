import Derived.Test.YtifeonoehfffmaaGreatDoorQ3
import Derived.Test.YtifeonoehfffmaaGreatDoorChecked
import Derived.KernelRfl
import Derived.Test.YtifeonoehfffmaaGreatDoorRows
import Derived.Shelf.Small.Strs
import Derived.Shelf.Strconv.Atoi
import Derived.Shelf.Strconv.Itoa0
import Derived.Shelf.Strconv.Itoa1
import Derived.Shelf.LaysM
import Derived.Shelf.Strconv.Itoa2
import Derived.Shelf.Strconv.Itoa3
import Derived.Shelf.Strconv.AtoiErrFast
import Derived.Shelf.Strconv.ParseIntEmpty
import Derived.Shelf.Strconv.AtoiFail
import Derived.Shelf.Strconv.Clone
import Derived.Shelf.Strconv.SyntaxError
import Derived.Shelf.LaysC
import Derived.Shelf.Strconv.ToError
import Derived.Shelf.Strconv.AtoiErr
import Derived.Shelf.Strconv.ErrVar
import Derived.Shelf.Strconv.Lower
import Derived.Shelf.Strconv.ParseUint10
import Derived.Shelf.Strconv.ParseUint10Empty
import Derived.Shelf.Strconv.ParseUint10Any
import Derived.Shelf.Strconv.ParseInt10
import Derived.Shelf.Strconv.AtoiLong
import Derived.Shelf.Strconv.AtoiInnerAll
import Derived.Shelf.Strconv.RangeError
import Derived.Shelf.Strconv.ToErrorRange
import Derived.Shelf.Strconv.AtoiAll
import Derived.Shelf.Strconv.ErrVarAll
import Derived.Shelf.Strings.Search1
import Derived.Test.YtifeonoehfffmaaGreatDoorProg
namespace Go.Proofs.YtifeonoehfffmaaGreatDoor
open Go.Ab
abbrev tabL : List (Nat × TyD) := [
 (2, ⟨.int .i64, 1, 8, [.int .i64 0]⟩),
 (3, ⟨.int .i64, 1, 8, [.int .i64 0]⟩),
 (4, ⟨.bool, 1, 1, [.bool false]⟩),
 (5, ⟨.int .u8, 1, 1, [.int .u8 0]⟩),
 (9, ⟨.str, 1, 16, [.string ⟨#[]⟩]⟩),
 (12, ⟨.int .u64, 1, 8, [.int .u64 0]⟩),
 (21, ⟨.int .i32, 1, 4, [.int .i32 0]⟩),
 (23, ⟨.slice 55, 1, 24, [.slice none 0 0]⟩),
 (25, ⟨.st [(0, 9, "From"), (1, 23, "Steps")], 2, 40, [.string ⟨#[]⟩, .slice none 0 0]⟩),
 (26, ⟨.int .i64, 1, 8, [.int .i64 0]⟩),
 (31, ⟨.int .i64, 1, 8, [.int .i64 0]⟩),
 (32, ⟨.int .i64, 1, 8, [.int .i64 0]⟩),
 (34, ⟨.st [(0, 32, "Kind"), (1, 3, "N"), (2, 9, "S")], 3, 32, [.int .i64 0, .int .i64 0, .string ⟨#[]⟩]⟩),
 (35, ⟨.slice 37, 1, 24, [.slice none 0 0]⟩),
 (37, ⟨.st [(0, 31, "Op"), (1, 9, "Name"), (2, 34, "V"), (5, 35, "Kids")], 6, 80, [.int .i64 0, .string ⟨#[]⟩, .int .i64 0, .int .i64 0, .string ⟨#[]⟩, .slice none 0 0]⟩),
 (49, ⟨.int .i64, 1, 8, [.int .i64 0]⟩),
 (50, ⟨.slice 88, 1, 24, [.slice none 0 0]⟩),
 (51, ⟨.slice 9, 1, 24, [.slice none 0 0]⟩),
 (52, ⟨.slice 106, 1, 24, [.slice none 0 0]⟩),
 (53, ⟨.slice 92, 1, 24, [.slice none 0 0]⟩),
 (55, ⟨.st [(0, 49, "Op"), (1, 37, "Cond"), (7, 50, "Items"), (8, 51, "Cols"), (9, 52, "Aggs"), (10, 53, "Sorts"), (11, 3, "N"), (12, 9, "Table")], 13, 208, [.int .i64 0, .int .i64 0, .string ⟨#[]⟩, .int .i64 0, .int .i64 0, .string ⟨#[]⟩, .slice none 0 0, .slice none 0 0, .slice none 0 0, .slice none 0 0, .slice none 0 0, .int .i64 0, .string ⟨#[]⟩]⟩),
 (57, ⟨.ptr 81, 1, 8, [.pointer none]⟩),
 (62, ⟨.ptr 66, 1, 8, [.pointer none]⟩),
 (63, ⟨.slice 98, 1, 24, [.slice none 0 0]⟩),
 (66, ⟨.st [(0, 63, "L"), (1, 3, "At"), (2, 4, "Bad")], 3, 40, [.slice none 0 0, .int .i64 0, .bool false]⟩),
 (78, ⟨.slice 84, 1, 24, [.slice none 0 0]⟩),
 (81, ⟨.st [(0, 78, "l"), (1, 4, "failed")], 2, 32, [.slice none 0 0, .bool false]⟩),
 (82, ⟨.int .i64, 1, 8, [.int .i64 0]⟩),
 (84, ⟨.st [(0, 82, "kind"), (1, 9, "s"), (2, 3, "n"), (3, 3, "at")], 4, 40, [.int .i64 0, .string ⟨#[]⟩, .int .i64 0, .int .i64 0]⟩),
 (88, ⟨.st [(0, 37, "E"), (6, 9, "As")], 7, 96, [.int .i64 0, .string ⟨#[]⟩, .int .i64 0, .int .i64 0, .string ⟨#[]⟩, .slice none 0 0, .string ⟨#[]⟩]⟩),
 (92, ⟨.st [(0, 9, "Col"), (1, 4, "Desc")], 2, 24, [.string ⟨#[]⟩, .bool false]⟩),
 (98, ⟨.st [(0, 3, "Kind"), (1, 9, "Text"), (2, 3, "At"), (3, 3, "Next")], 4, 40, [.int .i64 0, .string ⟨#[]⟩, .int .i64 0, .int .i64 0]⟩),
 (106, ⟨.st [(0, 9, "Fn"), (1, 9, "Col"), (2, 9, "As")], 3, 48, [.string ⟨#[]⟩, .string ⟨#[]⟩, .string ⟨#[]⟩]⟩),
 (109, ⟨.st [(0, 9, "sign"), (1, 31, "op")], 2, 24, [.string ⟨#[]⟩, .int .i64 0]⟩),
 (131, ⟨.slice 109, 1, 24, [.slice none 0 0]⟩),
 (137, ⟨.slice 49, 1, 24, [.slice none 0 0]⟩),
 (141, ⟨.st [(0, 51, "names")], 1, 24, [.slice none 0 0]⟩),
 (147, ⟨.ptr 141, 1, 8, [.pointer none]⟩),
 (155, ⟨.int .i64, 1, 8, [.int .i64 0]⟩),
 (156, ⟨.slice 5, 1, 24, [.slice none 0 0]⟩),
 (159, ⟨.ptr 168, 1, 8, [.pointer none]⟩),
 (162, ⟨.int .u64, 1, 8, [.int .u64 0]⟩),
 (165, ⟨.int .u64, 1, 8, [.int .u64 0]⟩),
 (174, ⟨.ptr 5, 1, 8, [.pointer none]⟩),
 (175, ⟨.ptr 177, 1, 8, [.pointer none]⟩),
 (177, ⟨.st [(0, 9, "s")], 1, 16, [.string ⟨#[]⟩]⟩),
 (188, ⟨.int .u32, 1, 4, [.int .u32 0]⟩)]
theorem tab_ok : tabL.all (fun x => tyOK Tryz.prog x.1 x.2) = true := by kernel_rfl
abbrev tab : Tab Tryz.prog := ⟨tabL, tab_ok, by kernel_rfl⟩
instance progMet : Go.Ab.Met Tryz.prog := ⟨fun W => MetNum Tryz.prog W⟩
section
variable {C : Ctx} {n : Nat} {ops : Array Oper} {Q : Exit → St → Prop} {rest : List Oper} {f : List (Nat × A)} {bx : List (Nat × List A)} {lv : List Nat} {gen d : Nat} {ty : TypeId} {pos : String} {af : Array Edge} {a : A}
theorem pE {op : Op} (h : Bool.rec (motive := fun _ => Option A) none (evPu tab f bx op) (Nat.blt d n) = some a) (k : WO Tryz.prog C n ops Q rest ⟨(d, a) :: f, bx, lv, gen⟩) : WO Tryz.prog C n ops Q (⟨some d, op, ty, pos, af, none⟩ :: rest) ⟨f, bx, lv, gen⟩ := by
  cases hb : Nat.blt d n with
  | false => rw [hb] at h; exact absurd h (by simp)
  | true => rw [hb] at h; exact pu (ev tab h) hb k
theorem pR {t : Nat} {x : Operand} {td : TyD} {l : List D} (ht : look' tab.l t = some td) (hk : td.k.agg = true) (hx : av f x = some (.rowd l)) (hl : l.length = td.n) (hd : Nat.blt d n = true) (k : WO Tryz.prog C n ops Q rest ⟨(d, .ag l) :: f, bx, lv, gen⟩) : WO Tryz.prog C n ops Q (⟨some d, .load t x, ty, pos, af, none⟩ :: rest) ⟨f, bx, lv, gen⟩ := pu (loadRow tab ht hk hx hl) hd k
theorem pB {t : Nat} {x : Operand} {td : TyD} {g : Nat} {l : List D} (ht : look' tab.l t = some td) (hk : td.k.agg = true) (hx : av f x = some (.ptr g 0)) (hb : look' bx g = some (l.map A.d)) (hl : l.length = td.n) (hd : Nat.blt d n = true) (k : WO Tryz.prog C n ops Q rest ⟨(d, .ag l) :: f, bx, lv, gen⟩) : WO Tryz.prog C n ops Q (⟨some d, .load t x, ty, pos, af, none⟩ :: rest) ⟨f, bx, lv, gen⟩ := pu (loadBox tab ht hk hx hb hl) hd k
end
end Go.Proofs.YtifeonoehfffmaaGreatDoor
namespace Go.Proofs.YtifeonoehfffmaaGreatDoor
open Go.Ab
theorem lmet (W : World) (h : laidMet Tryz.prog Rows.parseBackRow.laid W) : MetNum Tryz.prog W :=
 metNum_of (t := 187) (e := 162) (m := 20) (ti := 149) h (d := Rows.laid_internal_strconv_uint64pow10) (.tail _ (.tail _ (.head _))) (by kernel_rfl) (by kernel_rfl) (by kernel_rfl) (by kernel_rfl) (by kernel_rfl) (by kernel_rfl)
  (nm := "*errors.errorString") (nm' := "*errors.errorString") (.tail _ (.tail _ (.tail _ (.tail _ (.head _))))) (.tail _ (.tail _ (.tail _ (.head _)))) (by kernel_rfl) (by kernel_rfl) (by kernel_rfl)
end Go.Proofs.YtifeonoehfffmaaGreatDoor
namespace Go.Proofs.YtifeonoehfffmaaGreatDoor
open Go.Ab Go.Tb
set_option maxRecDepth 10000
attribute [local irreducible] W WO Pu QS QB QL QF QV QV1 CH QE
theorem in_fn (n : Int) : Does Tryz.prog 149 [.d (.v (.int .i64 n))] (.d (.v (.bool (inR n)))) 0 := by
 refine Does.of_W (n := 9) (ts := [2]) Tryz.func149 (by kernel_rfl) rfl Tryz.ntmps149 Tryz.results149 rfl rfl fun C hC hG => ?_
 refine W.seq (W.region ?_)
 refine pE rfl ?_
 refine WO.nil (qs (W.seq ?_))
 apply regionB; (case hb => rfl)
 ·
  iterate 3 refine pE rfl ?_
  apply splitJ; (case hj => rfl); (case hl => rfl)
  ·
   refine goG rfl rfl ?_
   refine pE rfl ?_
   refine goG rfl rfl ?_
   iterate 3 refine pE rfl ?_
   refine WO.nil ?_
   refine qv1 rfl rfl rfl
  ·
   iterate 2 refine skipT rfl rfl rfl rfl ?_
   iterate 2 refine pE rfl ?_
   refine WO.nil ?_
   refine qv1 rfl rfl rfl
 refine qs (W.ret ?_)
 refine QF.ret0 trivial rfl ?_
 simp [norm, oneA, inR]
theorem rin_fn (n : Int) : Does Tryz.prog 146 [.d (.v (.int .i64 n))] (.d (.v (.bool (inR n)))) 0 := by
 refine Does.of_W (n := 9) (ts := [2]) Tryz.func146 (by kernel_rfl) rfl Tryz.ntmps146 Tryz.results146 rfl rfl fun C hC hG => ?_
 refine W.seq (W.region ?_)
 refine pE rfl ?_
 refine WO.nil (qs (W.seq ?_))
 apply regionB; (case hb => rfl)
 ·
  iterate 3 refine pE rfl ?_
  apply splitJ; (case hj => rfl); (case hl => rfl)
  ·
   refine goG rfl rfl ?_
   refine pE rfl ?_
   refine goG rfl rfl ?_
   iterate 3 refine pE rfl ?_
   refine WO.nil ?_
   refine qv1 rfl rfl rfl
  ·
   iterate 2 refine skipT rfl rfl rfl rfl ?_
   iterate 2 refine pE rfl ?_
   refine WO.nil ?_
   refine qv1 rfl rfl rfl
 refine qs (W.ret ?_)
 refine QF.ret0 trivial rfl ?_
 simp [norm, oneA, inR]
theorem arity_fn (s : ByteArray) : Does Tryz.prog 135 [.d (.v (.string s))] (.d (.v (.int .i64 (arity s)))) 0 := by
 refine Does.of_W (n := 12) (ts := [2]) Tryz.func135 (by kernel_rfl) rfl Tryz.ntmps135 Tryz.results135 rfl rfl fun C hC hG => ?_
 refine W.seq (W.region ?_)
 refine pE rfl ?_
 refine WO.nil (qs ?_)
 iterate 2 refine W.seq ?_
 refine W.region ?_
 refine pE rfl ?_
 refine WO.nil (qs (W.block ?_))
 iterate 2 refine W.seq ?_
 refine W.region ?_
 iterate 2 refine pE rfl ?_
 refine WO.nil (qs ?_)
 refine condK rfl (fun h4 => ?_) (fun h4 => ?_)
 ·
  refine W.skip (qs ?_)
  refine W.condT rfl ?_
  refine W.seq (W.region ?_)
  refine pE rfl ?_
  refine WO.nil (qs (W.ret (qbRet (qsRet ?_))))
  refine QF.ret0 trivial rfl ?_
  simp_all [norm, oneA, arity, wMin, wMax, wHas, wStarts, wAbs, wLen]
 ·
  refine W.seq (W.region ?_)
  iterate 2 refine pE rfl ?_
  refine WO.nil (qs ?_)
  refine condK rfl (fun h4 => ?_) (fun h4 => ?_)
  ·
   refine W.skip (qs ?_)
   refine W.condT rfl ?_
   refine W.seq (W.region ?_)
   refine pE rfl ?_
   refine WO.nil (qs (W.ret (qbRet (qsRet ?_))))
   refine QF.ret0 trivial rfl ?_
   simp_all [norm, oneA, arity, wMin, wMax, wHas, wStarts, wAbs, wLen]
  ·
   refine W.seq (W.region ?_)
   iterate 2 refine pE rfl ?_
   refine WO.nil (qs ?_)
   refine condK rfl (fun h4 => ?_) (fun h4 => ?_)
   ·
    refine W.skip (qs ?_)
    refine W.condT rfl ?_
    refine W.seq (W.region ?_)
    refine pE rfl ?_
    refine WO.nil (qs (W.ret (qbRet (qsRet ?_))))
    refine QF.ret0 trivial rfl ?_
    simp_all [norm, oneA, arity, wMin, wMax, wHas, wStarts, wAbs, wLen]
   ·
    refine W.region ?_
    iterate 2 refine pE rfl ?_
    refine WO.nil (qs ?_)
    refine condK rfl (fun h4 => ?_) (fun h4 => ?_)
    ·
     refine W.seq (W.region ?_)
     refine pE rfl ?_
     refine WO.nil (qs (W.ret (qbRet (qsRet ?_))))
     refine QF.ret0 trivial rfl ?_
     simp_all [norm, oneA, arity, wMin, wMax, wHas, wStarts, wAbs, wLen]
    ·
     iterate 2 refine W.seq ?_
     refine W.region ?_
     iterate 2 refine pE rfl ?_
     refine WO.nil (qs ?_)
     refine condK rfl (fun h9 => ?_) (fun h9 => ?_)
     ·
      refine W.skip (qs ?_)
      refine W.condT rfl ?_
      refine W.seq (W.region ?_)
      refine pE rfl ?_
      refine WO.nil (qs (W.ret (qbRet (qsRet ?_))))
      refine QF.ret0 trivial rfl ?_
      simp_all [norm, oneA, arity, wMin, wMax, wHas, wStarts, wAbs, wLen]
     ·
      refine W.region ?_
      iterate 2 refine pE rfl ?_
      refine WO.nil (qs ?_)
      refine condK rfl (fun h9 => ?_) (fun h9 => ?_)
      ·
       refine W.seq (W.region ?_)
       refine pE rfl ?_
       refine WO.nil (qs (W.ret (qbRet (qsRet ?_))))
       refine QF.ret0 trivial rfl ?_
       simp_all [norm, oneA, arity, wMin, wMax, wHas, wStarts, wAbs, wLen]
      ·
       refine W.skip (qbN (qs (W.seq (W.region ?_))))
       refine pE rfl ?_
       refine WO.nil (qs (W.ret ?_))
       refine QF.ret0 trivial rfl ?_
       simp_all [norm, oneA, arity, wMin, wMax, wHas, wStarts, wAbs, wLen]
theorem kids_fn (op : Int) : Does Tryz.prog 117 [.d (.v (.int .i64 op))] (.d (.v (.int .i64 (kidsOf op)))) 0 := by
 refine Does.of_W (n := 17) (ts := [2]) Tryz.func117 (by kernel_rfl) rfl Tryz.ntmps117 Tryz.results117 rfl rfl fun C hC hG => ?_
 refine W.seq (W.region ?_)
 refine pE rfl ?_
 refine WO.nil (qs ?_)
 iterate 2 refine W.seq ?_
 apply regionB; (case hb => rfl)
 ·
  iterate 3 refine pE rfl ?_
  apply splitJ; (case hj => rfl); (case hl => rfl)
  ·
   iterate 2 refine skipT rfl rfl rfl rfl ?_
   refine pE rfl ?_
   refine WO.nil ?_
   refine qv1 rfl rfl rfl
  ·
   refine goG rfl rfl ?_
   refine pE rfl ?_
   refine goG rfl rfl ?_
   iterate 2 refine pE rfl ?_
   refine WO.nil ?_
   refine qv1 rfl rfl rfl
 refine qs ?_
 refine condK rfl (fun h8 => ?_) (fun h8 => ?_)
 ·
  refine W.seq (W.region ?_)
  refine pE rfl ?_
  refine WO.nil (qs (W.ret (qsRet ?_)))
  refine QF.ret0 trivial rfl ?_
  simp_all [norm, oneA, kidsOf]
 ·
  refine W.skip (qs ?_)
  iterate 2 refine W.seq ?_
  apply regionB; (case hb => rfl)
  ·
   iterate 3 refine pE rfl ?_
   apply splitJ; (case hj => rfl); (case hl => rfl)
   ·
    iterate 2 refine skipT rfl rfl rfl rfl ?_
    refine pE rfl ?_
    refine WO.nil ?_
    refine qv1 rfl rfl rfl
   ·
    refine goG rfl rfl ?_
    refine pE rfl ?_
    refine goG rfl rfl ?_
    iterate 2 refine pE rfl ?_
    refine WO.nil ?_
    refine qv1 rfl rfl rfl
  refine qs ?_
  refine condK rfl (fun h14 => ?_) (fun h14 => ?_)
  ·
   refine W.seq (W.region ?_)
   refine pE rfl ?_
   refine WO.nil (qs (W.ret (qsRet ?_)))
   refine QF.ret0 trivial rfl ?_
   simp_all [norm, oneA, kidsOf]
  ·
   refine W.skip (qs ?_)
   iterate 2 refine W.seq ?_
   refine W.region ?_
   iterate 2 refine pE rfl ?_
   refine WO.nil (qs ?_)
   refine condK rfl (fun h16 => ?_) (fun h16 => ?_)
   ·
    refine W.seq (W.region ?_)
    refine pE rfl ?_
    refine WO.nil (qs (W.ret (qsRet ?_)))
    refine QF.ret0 trivial rfl ?_
    simp_all [norm, oneA, kidsOf]
   ·
    refine W.skip (qs (W.seq (W.region ?_)))
    refine pE rfl ?_
    refine WO.nil (qs (W.ret ?_))
    refine QF.ret0 trivial rfl ?_
    simp_all [norm, oneA, kidsOf]
theorem value_fn (k : Int) (v : Val) : Does Tryz.prog 144 [.d (.v (.int .i64 k)), .ag v.c] (.d (.v (.int .i64 (valErr k v)))) 0 := by
 refine Does.of_W (n := 85) (ts := [4]) Tryz.func144 (by kernel_rfl) rfl Tryz.ntmps144 Tryz.results144 rfl rfl fun C hC hG => ?_
 refine W.seq (W.region ?_)
 refine boxR rfl rfl rfl ?_
 refine pE rfl ?_
 refine WO.nil (qs (W.seq ?_))
 apply regionB; (case hb => rfl)
 ·
  iterate 3 refine pE rfl ?_
  apply splitJ; (case hj => rfl); (case hl => rfl)
  ·
   iterate 2 refine skipT rfl rfl rfl rfl ?_
   iterate 2 refine pE rfl ?_
   iterate 2 refine skipT rfl rfl rfl rfl ?_
   iterate 2 refine pE rfl ?_
   refine WO.nil ?_
   refine qv1 rfl rfl rfl
  ·
   refine goG rfl rfl ?_
   refine pE rfl ?_
   refine goG rfl rfl ?_
   iterate 3 refine pE rfl ?_
   apply splitJ; (case hj => rfl); (case hl => rfl)
   ·
    iterate 2 refine skipT rfl rfl rfl rfl ?_
    iterate 2 refine pE rfl ?_
    refine WO.nil ?_
    refine qv1 rfl rfl rfl
   ·
    refine goG rfl rfl ?_
    refine pE rfl ?_
    refine goG rfl rfl ?_
    iterate 3 refine pE rfl ?_
    refine WO.nil ?_
    refine qv1 rfl rfl rfl
 refine qs (W.seq (W.block (W.seq ?_)))
 apply regionB; (case hb => rfl)
 ·
  refine pE rfl ?_
  first | refine pE rfl ?_ | refine pR rfl rfl rfl rfl rfl ?_ | refine pB rfl rfl rfl rfl rfl rfl ?_
  iterate 2 refine pE rfl ?_
  apply splitJ; (case hj => rfl); (case hl => rfl)
  ·
   refine goG rfl rfl ?_
   refine pE rfl ?_
   refine goG rfl rfl ?_
   first | refine pE rfl ?_ | refine pR rfl rfl rfl rfl rfl ?_ | refine pB rfl rfl rfl rfl rfl rfl ?_
   refine goG rfl rfl ?_
   refine pE rfl ?_
   refine goG rfl rfl ?_
   refine pE rfl ?_
   refine goG rfl rfl ?_
   refine pE rfl ?_
   apply splitJ; (case hj => rfl); (case hl => rfl)
   ·
    iterate 2 refine skipT rfl rfl rfl rfl ?_
    refine goG rfl rfl ?_
    iterate 3 refine pE rfl ?_
    refine WO.nil ?_
    refine qv1 rfl rfl rfl
   ·
    refine goG rfl rfl ?_
    refine pE rfl ?_
    refine goG rfl rfl ?_
    refine pE rfl ?_
    refine goG rfl rfl ?_
    iterate 3 refine pE rfl ?_
    refine WO.nil ?_
    refine qv1 rfl rfl rfl
  ·
   iterate 5 refine skipT rfl rfl rfl rfl ?_
   iterate 2 refine skipU rfl rfl rfl ?_
   refine skipT rfl rfl rfl rfl ?_
   iterate 2 refine pE rfl ?_
   refine WO.nil ?_
   refine qv1 rfl rfl rfl
 refine qs ?_
 refine condK rfl (fun h16 => ?_) (fun h16 => ?_)
 ·
  refine W.seq (W.region ?_)
  refine pE rfl ?_
  refine WO.nil (qs (W.ret (qbRet (qsRet ?_))))
  refine QF.ret0 trivial rfl ?_
  simp only [norm, oneA, Val.c] at *; grind [valErr]
 ·
  iterate 2 refine W.seq ?_
  apply regionB; (case hb => rfl)
  ·
   refine pE rfl ?_
   first | refine pE rfl ?_ | refine pR rfl rfl rfl rfl rfl ?_ | refine pB rfl rfl rfl rfl rfl rfl ?_
   iterate 2 refine pE rfl ?_
   apply splitJ; (case hj => rfl); (case hl => rfl)
   ·
    refine goG rfl rfl ?_
    refine pE rfl ?_
    refine goG rfl rfl ?_
    first | refine pE rfl ?_ | refine pR rfl rfl rfl rfl rfl ?_ | refine pB rfl rfl rfl rfl rfl rfl ?_
    refine goG rfl rfl ?_
    iterate 3 refine pE rfl ?_
    apply splitJ; (case hj => rfl); (case hl => rfl)
    ·
     refine goG rfl rfl ?_
     refine pE rfl ?_
     refine goG rfl rfl ?_
     first | refine pE rfl ?_ | refine pR rfl rfl rfl rfl rfl ?_ | refine pB rfl rfl rfl rfl rfl rfl ?_
     refine goG rfl rfl ?_
     iterate 3 refine pE rfl ?_
     refine WO.nil ?_
     refine qv1 rfl rfl rfl
    ·
     iterate 3 refine skipT rfl rfl rfl rfl ?_
     iterate 2 refine pE rfl ?_
     refine WO.nil ?_
     refine qv1 rfl rfl rfl
   ·
    iterate 3 refine skipT rfl rfl rfl rfl ?_
    iterate 2 refine pE rfl ?_
    iterate 3 refine skipT rfl rfl rfl rfl ?_
    iterate 2 refine pE rfl ?_
    refine WO.nil ?_
    refine qv1 rfl rfl rfl
  refine qs ?_
  refine condK rfl (fun h30 => ?_) (fun h30 => ?_)
  ·
   refine W.skip (qs ?_)
   refine W.condT rfl ?_
   refine W.seq (W.region ?_)
   refine pE rfl ?_
   refine WO.nil (qs (W.ret (qbRet (qsRet ?_))))
   refine QF.ret0 trivial rfl ?_
   simp only [norm, oneA, Val.c] at *; grind [valErr]
  ·
   apply regionB; (case hb => rfl)
   ·
    refine pE rfl ?_
    first | refine pE rfl ?_ | refine pR rfl rfl rfl rfl rfl ?_ | refine pB rfl rfl rfl rfl rfl rfl ?_
    iterate 2 refine pE rfl ?_
    apply splitJ; (case hj => rfl); (case hl => rfl)
    ·
     refine goG rfl rfl ?_
     refine pE rfl ?_
     refine goG rfl rfl ?_
     first | refine pE rfl ?_ | refine pR rfl rfl rfl rfl rfl ?_ | refine pB rfl rfl rfl rfl rfl rfl ?_
     refine goG rfl rfl ?_
     refine pu (puCall rfl rfl rfl (in_fn ..) rfl) rfl ?_
     refine goG rfl rfl ?_
     iterate 3 refine pE rfl ?_
     refine WO.nil ?_
     refine qv1 rfl rfl rfl
    ·
     iterate 4 refine skipT rfl rfl rfl rfl ?_
     iterate 2 refine pE rfl ?_
     refine WO.nil ?_
     refine qv1 rfl rfl rfl
   refine qs ?_
   refine condK rfl (fun h30 => ?_) (fun h30 => ?_)
   ·
    refine W.seq (W.region ?_)
    refine pE rfl ?_
    refine WO.nil (qs (W.ret (qbRet (qsRet ?_))))
    refine QF.ret0 trivial rfl ?_
    simp only [norm, oneA, Val.c] at *; grind [valErr]
   ·
    refine W.seq ?_
    apply regionB; (case hb => rfl)
    ·
     refine pE rfl ?_
     first | refine pE rfl ?_ | refine pR rfl rfl rfl rfl rfl ?_ | refine pB rfl rfl rfl rfl rfl rfl ?_
     iterate 2 refine pE rfl ?_
     apply splitJ; (case hj => rfl); (case hl => rfl)
     ·
      refine goG rfl rfl ?_
      refine pE rfl ?_
      refine goG rfl rfl ?_
      first | refine pE rfl ?_ | refine pR rfl rfl rfl rfl rfl ?_ | refine pB rfl rfl rfl rfl rfl rfl ?_
      refine goG rfl rfl ?_
      refine pE rfl ?_
      refine goG rfl rfl ?_
      iterate 3 refine pE rfl ?_
      refine WO.nil ?_
      refine qv1 rfl rfl rfl
     ·
      iterate 4 refine skipT rfl rfl rfl rfl ?_
      iterate 2 refine pE rfl ?_
      refine WO.nil ?_
      refine qv1 rfl rfl rfl
    refine qs ?_
    refine condK rfl (fun h53 => ?_) (fun h53 => ?_)
    ·
     refine W.seq (W.region ?_)
     refine pE rfl ?_
     refine WO.nil (qs (W.ret (qbRet (qsRet ?_))))
     refine QF.ret0 trivial rfl ?_
     simp only [norm, oneA, Val.c] at *; grind [valErr]
    ·
     iterate 2 refine W.seq ?_
     apply regionB; (case hb => rfl)
     ·
      refine pE rfl ?_
      first | refine pE rfl ?_ | refine pR rfl rfl rfl rfl rfl ?_ | refine pB rfl rfl rfl rfl rfl rfl ?_
      iterate 2 refine pE rfl ?_
      apply splitJ; (case hj => rfl); (case hl => rfl)
      ·
       refine goG rfl rfl ?_
       refine pE rfl ?_
       refine goG rfl rfl ?_
       first | refine pE rfl ?_ | refine pR rfl rfl rfl rfl rfl ?_ | refine pB rfl rfl rfl rfl rfl rfl ?_
       refine goG rfl rfl ?_
       iterate 3 refine pE rfl ?_
       refine WO.nil ?_
       refine qv1 rfl rfl rfl
      ·
       iterate 3 refine skipT rfl rfl rfl rfl ?_
       iterate 2 refine pE rfl ?_
       refine WO.nil ?_
       refine qv1 rfl rfl rfl
     refine qs ?_
     refine condK rfl (fun h63 => ?_) (fun h63 => ?_)
     ·
      refine W.skip (qs ?_)
      refine W.condT rfl ?_
      refine W.seq (W.region ?_)
      refine pE rfl ?_
      refine WO.nil (qs (W.ret (qbRet (qsRet ?_))))
      refine QF.ret0 trivial rfl ?_
      simp only [norm, oneA, Val.c] at *; grind [valErr]
     ·
      apply regionB; (case hb => rfl)
      ·
       refine pE rfl ?_
       first | refine pE rfl ?_ | refine pR rfl rfl rfl rfl rfl ?_ | refine pB rfl rfl rfl rfl rfl rfl ?_
       iterate 2 refine pE rfl ?_
       apply splitJ; (case hj => rfl); (case hl => rfl)
       ·
        iterate 3 refine skipT rfl rfl rfl rfl ?_
        iterate 2 refine pE rfl ?_
        refine goG rfl rfl ?_
        refine pE rfl ?_
        refine goG rfl rfl ?_
        first | refine pE rfl ?_ | refine pR rfl rfl rfl rfl rfl ?_ | refine pB rfl rfl rfl rfl rfl rfl ?_
        refine goG rfl rfl ?_
        iterate 3 refine pE rfl ?_
        refine WO.nil ?_
        refine qv1 rfl rfl rfl
       ·
        refine goG rfl rfl ?_
        refine pE rfl ?_
        refine goG rfl rfl ?_
        first | refine pE rfl ?_ | refine pR rfl rfl rfl rfl rfl ?_ | refine pB rfl rfl rfl rfl rfl rfl ?_
        refine goG rfl rfl ?_
        iterate 3 refine pE rfl ?_
        apply splitJ; (case hj => rfl); (case hl => rfl)
        ·
         refine goG rfl rfl ?_
         refine pE rfl ?_
         refine goG rfl rfl ?_
         first | refine pE rfl ?_ | refine pR rfl rfl rfl rfl rfl ?_ | refine pB rfl rfl rfl rfl rfl rfl ?_
         refine goG rfl rfl ?_
         iterate 3 refine pE rfl ?_
         refine WO.nil ?_
         refine qv1 rfl rfl rfl
        ·
         iterate 3 refine skipT rfl rfl rfl rfl ?_
         iterate 2 refine pE rfl ?_
         refine WO.nil ?_
         refine qv1 rfl rfl rfl
      refine qs ?_
      refine condK rfl (fun h63 => ?_) (fun h63 => ?_)
      ·
       refine W.seq (W.region ?_)
       refine pE rfl ?_
       refine WO.nil (qs (W.ret (qbRet (qsRet ?_))))
       refine QF.ret0 trivial rfl ?_
       simp only [norm, oneA, Val.c] at *; grind [valErr]
      ·
       refine W.skip (qbN (qs (W.seq (W.region ?_))))
       refine pE rfl ?_
       refine WO.nil (qs (W.ret ?_))
       refine QF.ret0 trivial rfl ?_
       simp only [norm, oneA, Val.c] at *; grind [valErr]
theorem rvalue_fn (k : Int) (v : Val) : Does Tryz.prog 137 [.d (.v (.int .i64 k)), .ag v.c] (.d (.v (.int .i64 (valErr k v)))) 0 := by
 refine Does.of_W (n := 78) (ts := [4]) Tryz.func137 (by kernel_rfl) rfl Tryz.ntmps137 Tryz.results137 rfl rfl fun C hC hG => ?_
 refine W.seq (W.region ?_)
 refine boxR rfl rfl rfl ?_
 refine pE rfl ?_
 refine WO.nil (qs ?_)
 iterate 2 refine W.seq ?_
 apply regionB; (case hb => rfl)
 ·
  refine pE rfl ?_
  first | refine pE rfl ?_ | refine pR rfl rfl rfl rfl rfl ?_ | refine pB rfl rfl rfl rfl rfl rfl ?_
  iterate 2 refine pE rfl ?_
  apply splitJ; (case hj => rfl); (case hl => rfl)
  ·
   refine goG rfl rfl ?_
   refine pE rfl ?_
   refine goG rfl rfl ?_
   first | refine pE rfl ?_ | refine pR rfl rfl rfl rfl rfl ?_ | refine pB rfl rfl rfl rfl rfl rfl ?_
   refine goG rfl rfl ?_
   refine pE rfl ?_
   refine goG rfl rfl ?_
   refine pE rfl ?_
   refine goG rfl rfl ?_
   refine pE rfl ?_
   apply splitJ; (case hj => rfl); (case hl => rfl)
   ·
    iterate 2 refine skipT rfl rfl rfl rfl ?_
    refine goG rfl rfl ?_
    refine pE rfl ?_
    refine goG rfl rfl ?_
    refine pE rfl ?_
    iterate 2 refine skipT rfl rfl rfl rfl ?_
    refine goG rfl rfl ?_
    iterate 2 refine pE rfl ?_
    refine WO.nil ?_
    refine qv1 rfl rfl rfl
   ·
    refine goG rfl rfl ?_
    refine pE rfl ?_
    refine goG rfl rfl ?_
    refine pE rfl ?_
    refine goG rfl rfl ?_
    refine pE rfl ?_
    refine goG rfl rfl ?_
    refine pE rfl ?_
    apply splitJ; (case hj => rfl); (case hl => rfl)
    ·
     iterate 2 refine skipT rfl rfl rfl rfl ?_
     refine goG rfl rfl ?_
     iterate 2 refine pE rfl ?_
     refine WO.nil ?_
     refine qv1 rfl rfl rfl
    ·
     refine goG rfl rfl ?_
     refine pE rfl ?_
     refine goG rfl rfl ?_
     refine pE rfl ?_
     refine goG rfl rfl ?_
     iterate 2 refine pE rfl ?_
     refine WO.nil ?_
     refine qv1 rfl rfl rfl
  ·
   iterate 5 refine skipT rfl rfl rfl rfl ?_
   iterate 2 refine skipU rfl rfl rfl ?_
   iterate 2 refine skipT rfl rfl rfl rfl ?_
   iterate 2 refine skipU rfl rfl rfl ?_
   refine skipT rfl rfl rfl rfl ?_
   refine pE rfl ?_
   refine WO.nil ?_
   refine qv1 rfl rfl rfl
 refine qs ?_
 refine condK rfl (fun h21 => ?_) (fun h21 => ?_)
 ·
  refine W.seq (W.region ?_)
  refine pE rfl ?_
  refine WO.nil (qs (W.ret (qsRet ?_)))
  refine QF.ret0 trivial rfl ?_
  simp only [norm, oneA, Val.c] at *; grind [valErr]
 ·
  refine W.skip (qs ?_)
  iterate 2 refine W.seq ?_
  apply regionB; (case hb => rfl)
  ·
   refine pE rfl ?_
   first | refine pE rfl ?_ | refine pR rfl rfl rfl rfl rfl ?_ | refine pB rfl rfl rfl rfl rfl rfl ?_
   iterate 2 refine pE rfl ?_
   apply splitJ; (case hj => rfl); (case hl => rfl)
   ·
    refine goG rfl rfl ?_
    refine pE rfl ?_
    refine goG rfl rfl ?_
    first | refine pE rfl ?_ | refine pR rfl rfl rfl rfl rfl ?_ | refine pB rfl rfl rfl rfl rfl rfl ?_
    refine goG rfl rfl ?_
    refine pE rfl ?_
    refine goG rfl rfl ?_
    refine pE rfl ?_
    apply splitJ; (case hj => rfl); (case hl => rfl)
    ·
     iterate 3 refine skipT rfl rfl rfl rfl ?_
     refine goG rfl rfl ?_
     iterate 3 refine pE rfl ?_
     iterate 4 refine skipT rfl rfl rfl rfl ?_
     iterate 4 refine skipU rfl rfl rfl ?_
     refine skipT rfl rfl rfl rfl ?_
     refine pE rfl ?_
     refine WO.nil ?_
     refine qv1 rfl rfl rfl
    ·
     refine goG rfl rfl ?_
     refine pE rfl ?_
     refine goG rfl rfl ?_
     first | refine pE rfl ?_ | refine pR rfl rfl rfl rfl rfl ?_ | refine pB rfl rfl rfl rfl rfl rfl ?_
     refine goG rfl rfl ?_
     refine pE rfl ?_
     refine goG rfl rfl ?_
     iterate 3 refine pE rfl ?_
     apply splitJ; (case hj => rfl); (case hl => rfl)
     ·
      iterate 4 refine skipT rfl rfl rfl rfl ?_
      iterate 4 refine skipU rfl rfl rfl ?_
      refine skipT rfl rfl rfl rfl ?_
      refine pE rfl ?_
      refine WO.nil ?_
      refine qv1 rfl rfl rfl
     ·
      refine goG rfl rfl ?_
      refine pE rfl ?_
      refine goG rfl rfl ?_
      first | refine pE rfl ?_ | refine pR rfl rfl rfl rfl rfl ?_ | refine pB rfl rfl rfl rfl rfl rfl ?_
      refine goG rfl rfl ?_
      refine pE rfl ?_
      refine goG rfl rfl ?_
      refine pE rfl ?_
      apply splitJ; (case hj => rfl); (case hl => rfl)
      ·
       refine goG rfl rfl ?_
       refine pE rfl ?_
       refine goG rfl rfl ?_
       first | refine pE rfl ?_ | refine pR rfl rfl rfl rfl rfl ?_ | refine pB rfl rfl rfl rfl rfl rfl ?_
       refine goG rfl rfl ?_
       refine pu (puCall rfl rfl rfl (rin_fn ..) rfl) rfl ?_
       refine goG rfl rfl ?_
       refine pE rfl ?_
       refine goG rfl rfl ?_
       iterate 2 refine pE rfl ?_
       refine WO.nil ?_
       refine qv1 rfl rfl rfl
      ·
       iterate 4 refine skipT rfl rfl rfl rfl ?_
       refine goG rfl rfl ?_
       iterate 2 refine pE rfl ?_
       refine WO.nil ?_
       refine qv1 rfl rfl rfl
   ·
    iterate 4 refine skipT rfl rfl rfl rfl ?_
    iterate 3 refine skipU rfl rfl rfl ?_
    refine skipT rfl rfl rfl rfl ?_
    iterate 2 refine pE rfl ?_
    refine goG rfl rfl ?_
    refine pE rfl ?_
    refine goG rfl rfl ?_
    first | refine pE rfl ?_ | refine pR rfl rfl rfl rfl rfl ?_ | refine pB rfl rfl rfl rfl rfl rfl ?_
    refine goG rfl rfl ?_
    refine pE rfl ?_
    refine goG rfl rfl ?_
    refine pE rfl ?_
    apply splitJ; (case hj => rfl); (case hl => rfl)
    ·
     refine goG rfl rfl ?_
     refine pE rfl ?_
     refine goG rfl rfl ?_
     first | refine pE rfl ?_ | refine pR rfl rfl rfl rfl rfl ?_ | refine pB rfl rfl rfl rfl rfl rfl ?_
     refine goG rfl rfl ?_
     refine pu (puCall rfl rfl rfl (rin_fn ..) rfl) rfl ?_
     refine goG rfl rfl ?_
     refine pE rfl ?_
     refine goG rfl rfl ?_
     iterate 2 refine pE rfl ?_
     refine WO.nil ?_
     refine qv1 rfl rfl rfl
    ·
     iterate 4 refine skipT rfl rfl rfl rfl ?_
     refine goG rfl rfl ?_
     iterate 2 refine pE rfl ?_
     refine WO.nil ?_
     refine qv1 rfl rfl rfl
  refine qs ?_
  refine condK rfl (fun h45 => ?_) (fun h45 => ?_)
  ·
   refine W.seq (W.region ?_)
   refine pE rfl ?_
   refine WO.nil (qs (W.ret (qsRet ?_)))
   refine QF.ret0 trivial rfl ?_
   simp only [norm, oneA, Val.c] at *; grind [valErr]
  ·
   refine W.skip (qs ?_)
   iterate 2 refine W.seq ?_
   apply regionB; (case hb => rfl)
   ·
    refine pE rfl ?_
    first | refine pE rfl ?_ | refine pR rfl rfl rfl rfl rfl ?_ | refine pB rfl rfl rfl rfl rfl rfl ?_
    iterate 2 refine pE rfl ?_
    apply splitJ; (case hj => rfl); (case hl => rfl)
    ·
     refine goG rfl rfl ?_
     refine pE rfl ?_
     refine goG rfl rfl ?_
     first | refine pE rfl ?_ | refine pR rfl rfl rfl rfl rfl ?_ | refine pB rfl rfl rfl rfl rfl rfl ?_
     refine goG rfl rfl ?_
     refine pE rfl ?_
     refine goG rfl rfl ?_
     iterate 2 refine pE rfl ?_
     refine WO.nil ?_
     refine qv1 rfl rfl rfl
    ·
     iterate 4 refine skipT rfl rfl rfl rfl ?_
     refine pE rfl ?_
     refine WO.nil ?_
     refine qv1 rfl rfl rfl
   refine qs ?_
   refine condK rfl (fun h54 => ?_) (fun h54 => ?_)
   ·
    refine W.seq (W.region ?_)
    refine pE rfl ?_
    refine WO.nil (qs (W.ret (qsRet ?_)))
    refine QF.ret0 trivial rfl ?_
    simp only [norm, oneA, Val.c] at *; grind [valErr]
   ·
    refine W.skip (qs ?_)
    iterate 2 refine W.seq ?_
    apply regionB; (case hb => rfl)
    ·
     refine pE rfl ?_
     first | refine pE rfl ?_ | refine pR rfl rfl rfl rfl rfl ?_ | refine pB rfl rfl rfl rfl rfl rfl ?_
     iterate 2 refine pE rfl ?_
     apply splitJ; (case hj => rfl); (case hl => rfl)
     ·
      refine goG rfl rfl ?_
      refine pE rfl ?_
      refine goG rfl rfl ?_
      first | refine pE rfl ?_ | refine pR rfl rfl rfl rfl rfl ?_ | refine pB rfl rfl rfl rfl rfl rfl ?_
      refine goG rfl rfl ?_
      iterate 3 refine pE rfl ?_
      apply splitJ; (case hj => rfl); (case hl => rfl)
      ·
       iterate 4 refine skipT rfl rfl rfl rfl ?_
       iterate 3 refine skipU rfl rfl rfl ?_
       iterate 2 refine skipT rfl rfl rfl rfl ?_
       iterate 3 refine skipU rfl rfl rfl ?_
       refine skipT rfl rfl rfl rfl ?_
       refine pE rfl ?_
       refine WO.nil ?_
       refine qv1 rfl rfl rfl
      ·
       refine goG rfl rfl ?_
       refine pE rfl ?_
       refine goG rfl rfl ?_
       first | refine pE rfl ?_ | refine pR rfl rfl rfl rfl rfl ?_ | refine pB rfl rfl rfl rfl rfl rfl ?_
       refine goG rfl rfl ?_
       refine pE rfl ?_
       refine goG rfl rfl ?_
       refine pE rfl ?_
       apply splitJ; (case hj => rfl); (case hl => rfl)
       ·
        iterate 3 refine skipT rfl rfl rfl rfl ?_
        refine goG rfl rfl ?_
        refine pE rfl ?_
        refine goG rfl rfl ?_
        refine pE rfl ?_
        refine goG rfl rfl ?_
        refine pE rfl ?_
        refine goG rfl rfl ?_
        first | refine pE rfl ?_ | refine pR rfl rfl rfl rfl rfl ?_ | refine pB rfl rfl rfl rfl rfl rfl ?_
        refine goG rfl rfl ?_
        refine pE rfl ?_
        refine goG rfl rfl ?_
        iterate 2 refine pE rfl ?_
        refine WO.nil ?_
        refine qv1 rfl rfl rfl
       ·
        refine goG rfl rfl ?_
        refine pE rfl ?_
        refine goG rfl rfl ?_
        first | refine pE rfl ?_ | refine pR rfl rfl rfl rfl rfl ?_ | refine pB rfl rfl rfl rfl rfl rfl ?_
        refine goG rfl rfl ?_
        refine pE rfl ?_
        refine goG rfl rfl ?_
        refine pE rfl ?_
        refine goG rfl rfl ?_
        refine pE rfl ?_
        apply splitJ; (case hj => rfl); (case hl => rfl)
        ·
         refine goG rfl rfl ?_
         refine pE rfl ?_
         refine goG rfl rfl ?_
         first | refine pE rfl ?_ | refine pR rfl rfl rfl rfl rfl ?_ | refine pB rfl rfl rfl rfl rfl rfl ?_
         refine goG rfl rfl ?_
         refine pE rfl ?_
         refine goG rfl rfl ?_
         iterate 2 refine pE rfl ?_
         refine WO.nil ?_
         refine qv1 rfl rfl rfl
        ·
         iterate 3 refine skipT rfl rfl rfl rfl ?_
         refine goG rfl rfl ?_
         iterate 2 refine pE rfl ?_
         refine WO.nil ?_
         refine qv1 rfl rfl rfl
     ·
      iterate 3 refine skipT rfl rfl rfl rfl ?_
      iterate 2 refine pE rfl ?_
      refine goG rfl rfl ?_
      refine pE rfl ?_
      refine goG rfl rfl ?_
      first | refine pE rfl ?_ | refine pR rfl rfl rfl rfl rfl ?_ | refine pB rfl rfl rfl rfl rfl rfl ?_
      refine goG rfl rfl ?_
      refine pE rfl ?_
      refine goG rfl rfl ?_
      refine pE rfl ?_
      apply splitJ; (case hj => rfl); (case hl => rfl)
      ·
       iterate 3 refine skipT rfl rfl rfl rfl ?_
       refine goG rfl rfl ?_
       refine pE rfl ?_
       refine goG rfl rfl ?_
       refine pE rfl ?_
       refine goG rfl rfl ?_
       refine pE rfl ?_
       refine goG rfl rfl ?_
       first | refine pE rfl ?_ | refine pR rfl rfl rfl rfl rfl ?_ | refine pB rfl rfl rfl rfl rfl rfl ?_
       refine goG rfl rfl ?_
       refine pE rfl ?_
       refine goG rfl rfl ?_
       iterate 2 refine pE rfl ?_
       refine WO.nil ?_
       refine qv1 rfl rfl rfl
      ·
       refine goG rfl rfl ?_
       refine pE rfl ?_
       refine goG rfl rfl ?_
       first | refine pE rfl ?_ | refine pR rfl rfl rfl rfl rfl ?_ | refine pB rfl rfl rfl rfl rfl rfl ?_
       refine goG rfl rfl ?_
       refine pE rfl ?_
       refine goG rfl rfl ?_
       refine pE rfl ?_
       refine goG rfl rfl ?_
       refine pE rfl ?_
       apply splitJ; (case hj => rfl); (case hl => rfl)
       ·
        refine goG rfl rfl ?_
        refine pE rfl ?_
        refine goG rfl rfl ?_
        first | refine pE rfl ?_ | refine pR rfl rfl rfl rfl rfl ?_ | refine pB rfl rfl rfl rfl rfl rfl ?_
        refine goG rfl rfl ?_
        refine pE rfl ?_
        refine goG rfl rfl ?_
        iterate 2 refine pE rfl ?_
        refine WO.nil ?_
        refine qv1 rfl rfl rfl
       ·
        iterate 3 refine skipT rfl rfl rfl rfl ?_
        refine goG rfl rfl ?_
        iterate 2 refine pE rfl ?_
        refine WO.nil ?_
        refine qv1 rfl rfl rfl
    refine qs ?_
    refine condK rfl (fun h77 => ?_) (fun h77 => ?_)
    ·
     refine W.seq (W.region ?_)
     refine pE rfl ?_
     refine WO.nil (qs (W.ret (qsRet ?_)))
     refine QF.ret0 trivial rfl ?_
     simp only [norm, oneA, Val.c] at *; grind [valErr]
    ·
     refine W.skip (qs (W.seq (W.region ?_)))
     refine pE rfl ?_
     refine WO.nil (qs (W.ret ?_))
     refine QF.ret0 trivial rfl ?_
     simp only [norm, oneA, Val.c] at *; grind [valErr]
end Go.Proofs.YtifeonoehfffmaaGreatDoor
namespace Go.Proofs.YtifeonoehfffmaaGreatDoor
open Go.Ab Go.Tb
set_option maxRecDepth 10000
attribute [local irreducible] W WO Pu QS QB QL QF QV QV1 CH QE
theorem index_fn (l : List ByteArray) (s : ByteArray) : Does Tryz.prog 120 [.d (.sl (l.map sc)), .d (.v (.string s))] (.d (.v (.int .i64 (idx (l.findIdx? fun x => decide (s = x)))))) 0 := by
 refine Does.of_W (n := 19) (ts := [4]) Tryz.func120 (by kernel_rfl) rfl Tryz.ntmps120 Tryz.results120 rfl rfl fun C hC hG => ?_
 refine W.seq (W.region ?_)
 refine pE rfl ?_
 refine WO.nil (qs ?_)
 iterate 2 refine W.seq ?_
 refine W.region ?_
 iterate 3 refine pE rfl ?_
 refine WO.nil (qs (W.block ?_))
 refine W.len (t := 0) rfl rfl (fun hlen => ?_)
 try simp only [List.length_map, Ex.kc_len] at hlen
 refine W.loopR (ι := {x : Nat // match x with | k => k ≤ l.length ∧ noneBefore (fun x => decide (s = x)) l k})
  (fun x => match x.1 with | k => [(8, .d (.v (.int .i64 ((k : Nat) : Int))))]) [(0, _), (1, _), (7, _)]
  (fun x => match x.1 with | k => []) [] [] 0 (fun x => match x.1 with | k => l.length - k)
  [] ⟨0, ?_⟩ rfl ?_ ⟨rfl, rfl, rfl, rfl, rfl, rfl, trivial⟩ ?_ trivial rfl ?_
 · exact ⟨Nat.zero_le _, noneBefore.zero⟩
 · repeat' first | exact trivial | refine ⟨rfl, ?_⟩ | refine ⟨step_nat (by assumption) (by assumption), ?_⟩
 · repeat' first | exact trivial | refine ⟨rfl, ?_⟩ | refine ⟨step_nat (by assumption) (by assumption), ?_⟩
 rintro ⟨k, hk, hI⟩
 show W _ _ _ _ _ ⟨[(8, .d (.v (.int .i64 ((k : Nat) : Int)))), (0, _), (1, _), (7, _)], [], [], 0⟩
 refine W.seq (W.region ?_)
 refine pE rfl ?_
 refine WO.nil (qs (W.seq ?_))
 refine eachR (l := l) (k := k) rfl (by simp [Ex.kc_len, bytes_len]) hk (fun x hx hd hlt => ?_) (fun he hd => ?_)
 ·
  refine W.skip (qs (W.seq (W.block (W.seq (W.region ?_)))))
  iterate 2 refine pE rfl ?_
  refine WO.nil (qs (W.seq (W.region ?_)))
  iterate 3 refine pE rfl ?_
  refine pu (indexAddr tab rfl rfl rfl rfl rfl rfl (Int.natCast_nonneg _) (idx_map (by assumption)) rfl) rfl ?_
  first | refine pE rfl ?_ | refine pR rfl rfl rfl rfl rfl ?_ | refine pB rfl rfl rfl rfl rfl rfl ?_
  refine pE rfl ?_
  refine WO.nil (qs ?_)
  refine condK rfl (fun h16 => ?_) (fun h16 => ?_)
  ·
   refine W.seq (W.region ?_)
   iterate 2 refine pE rfl ?_
   refine WO.nil (qs (W.ret (qbRet (qsRet (qlRet (qbRet (qsRet ?_)))))))
   refine QF.ret0 trivial rfl ?_
   simp only [norm, oneA]; rw [hI.found hx h16]; rfl
  ·
   refine W.skip (qbN (qs (W.region ?_)))
   iterate 2 refine pE rfl ?_
   refine WO.nil ?_
   refine W.endR [] ⟨k + 1, ?_⟩ ?_ rfl ?_ ⟨rfl, rfl, rfl, rfl, rfl, rfl, trivial⟩ ?_ trivial rfl
   · exact ⟨hlt, hI.step hx h16⟩
   · dsimp only; omega
   · repeat' first | exact trivial | refine ⟨rfl, ?_⟩ | refine ⟨step_nat (by assumption) (by assumption), ?_⟩
   · repeat' first | exact trivial | refine ⟨rfl, ?_⟩ | refine ⟨step_nat (by assumption) (by assumption), ?_⟩
 ·
  refine W.exit (qsExit (qlExit (qbExit (qs (W.seq (W.region ?_))))))
  refine pE rfl ?_
  refine WO.nil (qs (W.ret ?_))
  refine QF.ret0 trivial rfl ?_
  simp only [norm, oneA]; rw [hI.end_ he]; rfl
theorem indexOp_fn (l : List Int) (s : Int) : Does Tryz.prog 138 [.d (.sl (l.map ic)), .d (.v (.int .i64 s))] (.d (.v (.int .i64 (idx (l.findIdx? fun x => decide (s = x)))))) 0 := by
 refine Does.of_W (n := 19) (ts := [4]) Tryz.func138 (by kernel_rfl) rfl Tryz.ntmps138 Tryz.results138 rfl rfl fun C hC hG => ?_
 refine W.seq (W.region ?_)
 refine pE rfl ?_
 refine WO.nil (qs ?_)
 iterate 2 refine W.seq ?_
 refine W.region ?_
 iterate 3 refine pE rfl ?_
 refine WO.nil (qs (W.block ?_))
 refine W.len (t := 0) rfl rfl (fun hlen => ?_)
 try simp only [List.length_map, Ex.kc_len] at hlen
 refine W.loopR (ι := {x : Nat // match x with | k => k ≤ l.length ∧ noneBefore (fun x => decide (s = x)) l k})
  (fun x => match x.1 with | k => [(8, .d (.v (.int .i64 ((k : Nat) : Int))))]) [(0, _), (1, _), (7, _)]
  (fun x => match x.1 with | k => []) [] [] 0 (fun x => match x.1 with | k => l.length - k)
  [] ⟨0, ?_⟩ rfl ?_ ⟨rfl, rfl, rfl, rfl, rfl, rfl, trivial⟩ ?_ trivial rfl ?_
 · exact ⟨Nat.zero_le _, noneBefore.zero⟩
 · repeat' first | exact trivial | refine ⟨rfl, ?_⟩ | refine ⟨step_nat (by assumption) (by assumption), ?_⟩
 · repeat' first | exact trivial | refine ⟨rfl, ?_⟩ | refine ⟨step_nat (by assumption) (by assumption), ?_⟩
 rintro ⟨k, hk, hI⟩
 show W _ _ _ _ _ ⟨[(8, .d (.v (.int .i64 ((k : Nat) : Int)))), (0, _), (1, _), (7, _)], [], [], 0⟩
 refine W.seq (W.region ?_)
 refine pE rfl ?_
 refine WO.nil (qs (W.seq ?_))
 refine eachR (l := l) (k := k) rfl (by simp [Ex.kc_len, bytes_len]) hk (fun x hx hd hlt => ?_) (fun he hd => ?_)
 ·
  refine W.skip (qs (W.seq (W.block (W.seq (W.region ?_)))))
  iterate 2 refine pE rfl ?_
  refine WO.nil (qs (W.seq (W.region ?_)))
  iterate 3 refine pE rfl ?_
  refine pu (indexAddr tab rfl rfl rfl rfl rfl rfl (Int.natCast_nonneg _) (idx_map (by assumption)) rfl) rfl ?_
  first | refine pE rfl ?_ | refine pR rfl rfl rfl rfl rfl ?_ | refine pB rfl rfl rfl rfl rfl rfl ?_
  refine pE rfl ?_
  refine WO.nil (qs ?_)
  refine condK rfl (fun h16 => ?_) (fun h16 => ?_)
  ·
   refine W.seq (W.region ?_)
   iterate 2 refine pE rfl ?_
   refine WO.nil (qs (W.ret (qbRet (qsRet (qlRet (qbRet (qsRet ?_)))))))
   refine QF.ret0 trivial rfl ?_
   simp only [norm, oneA]; rw [hI.found hx h16]; rfl
  ·
   refine W.skip (qbN (qs (W.region ?_)))
   iterate 2 refine pE rfl ?_
   refine WO.nil ?_
   refine W.endR [] ⟨k + 1, ?_⟩ ?_ rfl ?_ ⟨rfl, rfl, rfl, rfl, rfl, rfl, trivial⟩ ?_ trivial rfl
   · exact ⟨hlt, hI.step hx h16⟩
   · dsimp only; omega
   · repeat' first | exact trivial | refine ⟨rfl, ?_⟩ | refine ⟨step_nat (by assumption) (by assumption), ?_⟩
   · repeat' first | exact trivial | refine ⟨rfl, ?_⟩ | refine ⟨step_nat (by assumption) (by assumption), ?_⟩
 ·
  refine W.exit (qsExit (qlExit (qbExit (qs (W.seq (W.region ?_))))))
  refine pE rfl ?_
  refine WO.nil (qs (W.ret ?_))
  refine QF.ret0 trivial rfl ?_
  simp only [norm, oneA]; rw [hI.end_ he]; rfl
theorem contains_fn (l : List ByteArray) (s : ByteArray) : Does Tryz.prog 90 [.d (.sl (l.map sc)), .d (.v (.string s))] (.d (.v (.bool (l.any fun x => decide (s = x))))) 0 := by
 refine Does.of_W (n := 9) (ts := [4]) Tryz.func90 (by kernel_rfl) rfl Tryz.ntmps90 Tryz.results90 rfl rfl fun C hC hG => ?_
 refine W.seq (W.region ?_)
 refine pE rfl ?_
 refine WO.nil (qs (W.seq (W.region ?_)))
 iterate 2 refine pE rfl ?_
 refine pu (puCall rfl rfl rfl (index_fn ..) rfl) rfl ?_
 iterate 2 refine pE rfl ?_
 refine WO.nil (qs (W.ret ?_))
 refine QF.ret0 trivial rfl ?_
 simp only [norm, oneA]; rw [← idx_nonneg]
theorem containsOp_fn (l : List Int) (s : Int) : Does Tryz.prog 122 [.d (.sl (l.map ic)), .d (.v (.int .i64 s))] (.d (.v (.bool (l.any fun x => decide (s = x))))) 0 := by
 refine Does.of_W (n := 9) (ts := [4]) Tryz.func122 (by kernel_rfl) rfl Tryz.ntmps122 Tryz.results122 rfl rfl fun C hC hG => ?_
 refine W.seq (W.region ?_)
 refine pE rfl ?_
 refine WO.nil (qs (W.seq (W.region ?_)))
 iterate 2 refine pE rfl ?_
 refine pu (puCall rfl rfl rfl (indexOp_fn ..) rfl) rfl ?_
 iterate 2 refine pE rfl ?_
 refine WO.nil (qs (W.ret ?_))
 refine QF.ret0 trivial rfl ?_
 simp only [norm, oneA]; rw [← idx_nonneg]
end Go.Proofs.YtifeonoehfffmaaGreatDoor
namespace Go.Proofs.YtifeonoehfffmaaGreatDoor
open Go.Ab Go.Tb
set_option maxRecDepth 10000
attribute [local irreducible] W WO Pu QS QB QL QF QV QV1 CH QE
theorem ixb_fn (s : ByteArray) (b : UInt8) : Does Tryz.prog 126 [.d (.v (.string s)), .d (.v (.int .u8 b.toNat))] (.d (.v (.int .i64 (Lib.indexByte (bys s) b)))) 0 := by
 refine Does.of_W (n := 8) (ts := [4]) Tryz.func126 (by kernel_rfl) rfl Tryz.ntmps126 Tryz.results126 rfl rfl fun C hC hG => ?_
 refine W.inRange (t := 0) rfl (fun hok => ?_)
 refine W.seq (W.region ?_)
 refine pE rfl ?_
 refine WO.nil (qs (W.seq (W.region ?_)))
 iterate 2 refine pE rfl ?_
 refine pu (puExt (vs := [.string s, .int .u8 b.toNat]) rfl rfl (fun w => (run_callFunc_extern Tryz.func139 (by kernel_rfl) (by kernel_rfl) (by kernel_rfl) (by kernel_rfl) #[.string s, .int .u8 b.toNat] w).trans (by rw [show (Extern.BytealgIndexByte.indexByte #[.string s, .int .u8 b.toNat]).run Tryz.prog w = _ from Lib.run_indexByteString s b.toNat w]; rfl)) (indexByte_ok hok _)) rfl ?_
 refine pE rfl ?_
 refine WO.nil (qs (W.ret ?_))
 refine QF.ret0 trivial rfl ?_
 simp [norm, oneA, bys]
theorem sixb_fn (s : ByteArray) (b : UInt8) : Does Tryz.prog 96 [.d (.v (.string s)), .d (.v (.int .u8 b.toNat))] (.d (.v (.int .i64 (Lib.indexByte (bys s) b)))) 0 := by
 refine Does.of_W (n := 8) (ts := [4]) Tryz.func96 (by kernel_rfl) rfl Tryz.ntmps96 Tryz.results96 rfl rfl fun C hC hG => ?_
 refine W.seq (W.region ?_)
 refine pE rfl ?_
 refine WO.nil (qs (W.seq (W.region ?_)))
 iterate 2 refine pE rfl ?_
 refine pu (puCall rfl rfl rfl (ixb_fn ..) rfl) rfl ?_
 refine pE rfl ?_
 refine WO.nil (qs (W.ret ?_))
 refine QF.ret0 trivial rfl ?_
 rfl
theorem identifier_fn (s : ByteArray) : Does Tryz.prog 48 [.d (.v (.string s))] (.d (.v (.bool (identB s)))) 0 := by
 refine Does.of_W (n := 53) (ts := [2]) Tryz.func48 (by kernel_rfl) rfl Tryz.ntmps48 Tryz.results48 rfl rfl fun C hC hG => ?_
 refine W.seq (W.region ?_)
 refine pE rfl ?_
 refine WO.nil (qs ?_)
 iterate 2 refine W.seq ?_
 apply regionB; (case hb => rfl)
 ·
  iterate 3 refine pE rfl ?_
  apply splitH; (case hj => rfl); (case hl => rfl)
  ·
   intro g7
   iterate 3 refine skipT rfl rfl rfl rfl ?_
   iterate 2 refine pE rfl ?_
   iterate 3 refine skipT rfl rfl rfl rfl ?_
   iterate 2 refine pE rfl ?_
   iterate 3 refine skipT rfl rfl rfl rfl ?_
   refine pE rfl ?_
   refine WO.nil ?_
   refine qv1 rfl rfl rfl
  ·
   intro g7
   refine goG rfl rfl ?_
   refine pE rfl ?_
   refine goG rfl rfl ?_
   refine pE rfl ?_
   refine goG rfl rfl ?_
   iterate 3 refine pE rfl ?_
   apply splitH; (case hj => rfl); (case hl => rfl)
   ·
    intro g12
    iterate 3 refine skipT rfl rfl rfl rfl ?_
    iterate 2 refine pE rfl ?_
    iterate 3 refine skipT rfl rfl rfl rfl ?_
    refine pE rfl ?_
    refine WO.nil ?_
    refine qv1 rfl rfl rfl
   ·
    intro g12
    refine goG rfl rfl ?_
    refine pE rfl ?_
    refine goG rfl rfl ?_
    refine pu (indexStr tab rfl rfl rfl rfl (Int.le_refl _) (head_byte (by simpa using g7))) rfl ?_
    refine goG rfl rfl ?_
    iterate 3 refine pE rfl ?_
    apply splitH; (case hj => rfl); (case hl => rfl)
    ·
     intro g17
     iterate 3 refine skipT rfl rfl rfl rfl ?_
     refine pE rfl ?_
     refine WO.nil ?_
     refine qv1 rfl rfl rfl
    ·
     intro g17
     refine goG rfl rfl ?_
     refine pE rfl ?_
     refine goG rfl rfl ?_
     refine pu (indexStr tab rfl rfl rfl rfl (Int.le_refl _) (head_byte (by simpa using g7))) rfl ?_
     refine goG rfl rfl ?_
     iterate 2 refine pE rfl ?_
     refine WO.nil ?_
     refine qv1 rfl rfl rfl
 refine qs ?_
 refine condK rfl (fun h21 => ?_) (fun h21 => ?_)
 ·
  refine W.seq (W.region ?_)
  refine pE rfl ?_
  refine WO.nil (qs (W.ret (qsRet ?_)))
  refine QF.ret0 trivial rfl ?_
  simp only [norm, oneA]; grind [identB, empty_bytes, lower]
 ·
  refine W.skip (qs ?_)
  iterate 2 refine W.seq ?_
  refine W.region ?_
  iterate 3 refine pE rfl ?_
  refine WO.nil (qs (W.block ?_))
  refine W.inRange (t := 0) rfl (fun hok => ?_)
  have hlen := okc_size hok
  refine W.loopR (ι := {x : Nat // match x with | k => k ≤ (bys s).length ∧ ((bys s).drop k).all idChar = (bys s).all idChar})
   (fun x => match x.1 with | k => [(24, .d (.v (.int .i64 ((k : Nat) : Int))))]) [(0, _), (23, _)]
   (fun x => match x.1 with | k => []) [] [] 0 (fun x => match x.1 with | k => (bys s).length - k)
   [] ⟨0, ?_⟩ rfl ?_ ⟨rfl, rfl, rfl, rfl, trivial⟩ ?_ trivial rfl ?_
  · first | exact ⟨Nat.zero_le _, rfl⟩ | exact trivial | simp
  · repeat' first | exact trivial | refine ⟨rfl, ?_⟩ | refine ⟨step_nat (by assumption) (by assumption), ?_⟩
  · repeat' first | exact trivial | refine ⟨rfl, ?_⟩ | refine ⟨step_nat (by assumption) (by assumption), ?_⟩
  rintro ⟨k, hk, hI⟩
  show W _ _ _ _ _ ⟨[(24, .d (.v (.int .i64 ((k : Nat) : Int)))), (0, _), (23, _)], [], [], 0⟩
  refine W.seq (W.region ?_)
  refine pE rfl ?_
  refine WO.nil (qs (W.seq ?_))
  refine eachR (l := bys s) (k := k) rfl (by simp [Ex.kc_len, bytes_len]) hk (fun b hx hd hlt => ?_) (fun he hd => ?_)
  ·
   rw [hd, List.all_cons] at hI
   refine W.skip (qs (W.seq (W.block (W.seq (W.region ?_)))))
   iterate 2 refine pE rfl ?_
   refine WO.nil (qs (W.seq (W.region ?_)))
   iterate 2 refine pE rfl ?_
   refine pu (indexStr tab rfl rfl rfl rfl (Int.natCast_nonneg _) (byteList (by assumption))) rfl ?_
   refine pE rfl ?_
   refine WO.nil (qs (W.seq ?_))
   apply regionB; (case hb => rfl)
   ·
    iterate 3 refine pE rfl ?_
    apply splitH; (case hj => rfl); (case hl => rfl)
    ·
     intro g32
     iterate 2 refine skipT rfl rfl rfl rfl ?_
     iterate 2 refine pE rfl ?_
     refine goG rfl rfl ?_
     refine pE rfl ?_
     refine goG rfl rfl ?_
     refine pE rfl ?_
     refine goG rfl rfl ?_
     refine pE rfl ?_
     apply splitH; (case hj => rfl); (case hl => rfl)
     ·
      intro g39
      iterate 2 refine skipT rfl rfl rfl rfl ?_
      refine goG rfl rfl ?_
      iterate 3 refine pE rfl ?_
      refine goG rfl rfl ?_
      refine pE rfl ?_
      refine goG rfl rfl ?_
      iterate 2 refine pE rfl ?_
      refine WO.nil ?_
      refine qv1 rfl rfl rfl
     ·
      intro g39
      refine goG rfl rfl ?_
      refine pE rfl ?_
      refine goG rfl rfl ?_
      refine pE rfl ?_
      refine goG rfl rfl ?_
      iterate 3 refine pE rfl ?_
      apply splitH; (case hj => rfl); (case hl => rfl)
      ·
       intro g44
       refine goG rfl rfl ?_
       refine pE rfl ?_
       refine goG rfl rfl ?_
       iterate 2 refine pE rfl ?_
       refine WO.nil ?_
       refine qv1 rfl rfl rfl
      ·
       intro g44
       iterate 2 refine skipT rfl rfl rfl rfl ?_
       refine pE rfl ?_
       refine WO.nil ?_
       refine qv1 rfl rfl rfl
    ·
     intro g32
     refine goG rfl rfl ?_
     refine pE rfl ?_
     refine goG rfl rfl ?_
     iterate 3 refine pE rfl ?_
     apply splitH; (case hj => rfl); (case hl => rfl)
     ·
      intro g36
      refine goG rfl rfl ?_
      refine pE rfl ?_
      refine goG rfl rfl ?_
      refine pE rfl ?_
      refine goG rfl rfl ?_
      refine pE rfl ?_
      apply splitH; (case hj => rfl); (case hl => rfl)
      ·
       intro g39
       iterate 2 refine skipT rfl rfl rfl rfl ?_
       refine goG rfl rfl ?_
       iterate 3 refine pE rfl ?_
       refine goG rfl rfl ?_
       refine pE rfl ?_
       refine goG rfl rfl ?_
       iterate 2 refine pE rfl ?_
       refine WO.nil ?_
       refine qv1 rfl rfl rfl
      ·
       intro g39
       refine goG rfl rfl ?_
       refine pE rfl ?_
       refine goG rfl rfl ?_
       refine pE rfl ?_
       refine goG rfl rfl ?_
       iterate 3 refine pE rfl ?_
       apply splitH; (case hj => rfl); (case hl => rfl)
       ·
        intro g44
        refine goG rfl rfl ?_
        refine pE rfl ?_
        refine goG rfl rfl ?_
        iterate 2 refine pE rfl ?_
        refine WO.nil ?_
        refine qv1 rfl rfl rfl
       ·
        intro g44
        iterate 2 refine skipT rfl rfl rfl rfl ?_
        refine pE rfl ?_
        refine WO.nil ?_
        refine qv1 rfl rfl rfl
     ·
      intro g36
      iterate 3 refine skipT rfl rfl rfl rfl ?_
      iterate 2 refine skipU rfl rfl rfl ?_
      refine skipT rfl rfl rfl rfl ?_
      iterate 2 refine pE rfl ?_
      iterate 2 refine skipT rfl rfl rfl rfl ?_
      refine pE rfl ?_
      refine WO.nil ?_
      refine qv1 rfl rfl rfl
   refine qs ?_
   refine condK rfl (fun h47 => ?_) (fun h47 => ?_)
   ·
    refine W.seq (W.region ?_)
    refine pE rfl ?_
    refine WO.nil (qs (W.ret (qbRet (qsRet (qlRet (qbRet (qsRet ?_)))))))
    refine QF.ret0 trivial rfl ?_
    simp only [norm, oneA]; simp [identB, ← hI, idChar, lower]; grind
   ·
    refine W.skip (qbN (qs (W.region ?_)))
    iterate 2 refine pE rfl ?_
    refine WO.nil ?_
    refine W.endR [] ⟨k + 1, ?_⟩ ?_ rfl ?_ ⟨rfl, rfl, rfl, rfl, trivial⟩ ?_ trivial rfl
    · exact ⟨hlt, by rw [← hI]; simp [idChar, lower]; grind⟩
    · dsimp only; omega
    · repeat' first | exact trivial | refine ⟨rfl, ?_⟩ | refine ⟨step_nat (by assumption) (by assumption), ?_⟩
    · repeat' first | exact trivial | refine ⟨rfl, ?_⟩ | refine ⟨step_nat (by assumption) (by assumption), ?_⟩
  ·
   rw [hd] at hI
   refine W.exit (qsExit (qlExit (qbExit (qs (W.seq (W.region ?_))))))
   refine pu (buildV tab rfl rfl rfl rfl rfl rfl rfl rfl rfl) rfl ?_
   refine pE rfl ?_
   refine pu (puCall rfl rfl rfl (contains_fn words s) rfl) rfl ?_
   iterate 2 refine pE rfl ?_
   refine WO.nil (qs (W.ret ?_))
   refine QF.ret0 trivial rfl ?_
   simp only [norm, oneA, identB, ← hI]; generalize words.any (fun w => decide (s = w)) = z; clear hI hd hok hlen hk he; simp only [List.all_nil, lower]; generalize (bys s).headD 0 = b at *; grind
end Go.Proofs.YtifeonoehfffmaaGreatDoor
namespace Go.Proofs
open Go.Shelf
def Tryz.laysM171_ren : Go.Shelf.Ren := ⟨fun | 171 => 150 | 243 => 158 | 246 => 164 | 283 => 171 | 284 => 172 | 285 => 173 | 286 => 174 | 129 => 178 | 317 => 177 | 318 => 179 | 319 => 180 | 320 => 181 | 337 => 182 | 338 => 183 | n => n, fun | 3 => 3 | 9 => 9 | 2 => 2 | 4 => 4 | 171 => 178 | 0 => 0 | 53 => 162 | 37 => 156 | 5 => 5 | 173 => 181 | 212 => 187 | 51 => 188 | 20 => 20 | 213 => 189 | 46 => 165 | 232 => 192 | 233 => 193 | n => n, fun | 17 => 3 | 18 => 4 | 19 => 5 | n => n⟩
theorem Tryz.laysM171 : Go.Proofs.LaysM.n171 Tryz.prog Tryz.laysM171_ren := {
 mixed := by kernel_rfl
 f129 := Tryz.func178.trans (congrArg some (by kernel_rfl))
 f171 := Tryz.func150.trans (congrArg some (by kernel_rfl))
 f243 := Tryz.func158.trans (congrArg some (by kernel_rfl))
 f246 := Tryz.func164.trans (congrArg some (by kernel_rfl))
 f283 := Tryz.func171.trans (congrArg some (by kernel_rfl))
 f284 := Tryz.func172.trans (congrArg some (by kernel_rfl))
 f285 := Tryz.func173.trans (congrArg some (by kernel_rfl))
 f286 := Tryz.func174.trans (congrArg some (by kernel_rfl))
 f317 := Tryz.func177.trans (congrArg some (by kernel_rfl))
 f318 := Tryz.func179.trans (congrArg some (by kernel_rfl))
 f319 := Tryz.func180.trans (congrArg some (by kernel_rfl))
 f320 := Tryz.func181.trans (congrArg some (by kernel_rfl))
 f337 := Tryz.func182.trans (congrArg some (by kernel_rfl))
 f338 := Tryz.func183.trans (congrArg some (by kernel_rfl))
 t0 := Tryz.underlying0
 a0 := Tryz.isAgg0
 z0 := Tryz.sizeOf0
 v0 := Tryz.zeroValue0
 t2 := Tryz.underlying2
 a2 := Tryz.isAgg2
 z2 := Tryz.sizeOf2
 v2 := Tryz.zeroValue2
 t3 := Tryz.underlying3
 a3 := Tryz.isAgg3
 z3 := Tryz.sizeOf3
 v3 := Tryz.zeroValue3
 t4 := Tryz.underlying4
 a4 := Tryz.isAgg4
 z4 := Tryz.sizeOf4
 v4 := Tryz.zeroValue4
 t5 := Tryz.underlying5
 a5 := Tryz.isAgg5
 z5 := Tryz.sizeOf5
 v5 := Tryz.zeroValue5
 t9 := Tryz.underlying9
 a9 := Tryz.isAgg9
 z9 := Tryz.sizeOf9
 v9 := Tryz.zeroValue9
 t20 := Tryz.underlying20
 a20 := Tryz.isAgg20
 z20 := Tryz.sizeOf20
 v20 := Tryz.zeroValue20
 t37 := Tryz.underlying156
 a37 := Tryz.isAgg156
 z37 := Tryz.sizeOf156
 v37 := Tryz.zeroValue156
 t46 := Tryz.underlying165
 a46 := Tryz.isAgg165
 z46 := Tryz.sizeOf165
 v46 := Tryz.zeroValue165
 t51 := Tryz.underlying188
 a51 := Tryz.isAgg188
 z51 := Tryz.sizeOf188
 v51 := Tryz.zeroValue188
 t53 := Tryz.underlying162
 a53 := Tryz.isAgg162
 z53 := Tryz.sizeOf162
 v53 := Tryz.zeroValue162
 t171 := Tryz.underlying178
 a171 := Tryz.isAgg178
 z171 := Tryz.sizeOf178
 v171 := Tryz.zeroValue178
 t173 := Tryz.underlying181
 a173 := Tryz.isAgg181
 z173 := Tryz.sizeOf181
 v173 := Tryz.zeroValue181
 t212 := Tryz.underlying187
 a212 := Tryz.isAgg187
 z212 := Tryz.sizeOf187
 v212 := Tryz.zeroValue187
 t213 := Tryz.underlying189
 a213 := Tryz.isAgg189
 z213 := Tryz.sizeOf189
 t232 := Tryz.underlying192
 a232 := Tryz.isAgg192
 z232 := Tryz.sizeOf192
 v232 := Tryz.zeroValue192
 t233 := Tryz.underlying193
 a233 := Tryz.isAgg193
 z233 := Tryz.sizeOf193
 v233 := Tryz.zeroValue193
 g17 := by kernel_rfl
 g18 := by kernel_rfl
 g19 := by kernel_rfl
 i0 := by kernel_rfl
 i2 := by kernel_rfl
 i3 := by kernel_rfl
 i4 := by kernel_rfl
 i5 := by kernel_rfl
 i9 := by kernel_rfl
 i20 := by kernel_rfl
 i37 := by kernel_rfl
 i46 := by kernel_rfl
 i51 := by kernel_rfl
 i53 := by kernel_rfl
 i171 := by kernel_rfl
 i173 := by kernel_rfl
 i212 := by kernel_rfl
 i232 := by kernel_rfl
 i233 := by kernel_rfl
 m17 := by kernel_rfl
 m18 := by kernel_rfl
 m19 := by kernel_rfl }
open Go.RowKit Go.Sort Go.Lib in
theorem Tryz.strconv_Itoa (n : Int) (h0 : -9223372036854775808 ≤ n) (h1 : n ≤ 9223372036854775807) (w : World) (htab : Lib.TabIs Tryz.prog w "internal/strconv.uint64pow10" .u64 Lib.pow10Tab) :
  Calls Tryz.prog 150 #[.int .i64 n] w fun e w' => e = .returned (.string ⟨(Lib.itoa n).toArray⟩) ∧ ∃ k os, w' = grow (w.drewN k) os := Any.strconv_Itoa Tryz.laysM171 n h0 h1 w htab
def Tryz.laysC172_ren : Go.Shelf.Ren := ⟨fun | 172 => 140 | 244 => 147 | 245 => 148 | 247 => 153 | 279 => 154 | 280 => 155 | 281 => 156 | 282 => 157 | 287 => 161 | 316 => 162 | 171 => 150 | 205 => 163 | 321 => 169 | 322 => 170 | 243 => 158 | 246 => 164 | 283 => 171 | 284 => 172 | 285 => 173 | 286 => 174 | 129 => 178 | 317 => 177 | 318 => 179 | 319 => 180 | 320 => 181 | 337 => 182 | 338 => 183 | n => n, fun | 9 => 9 | 3 => 3 | 75 => 149 | 76 => 150 | 4 => 4 | 5 => 5 | 167 => 155 | 37 => 156 | 0 => 0 | 85 => 157 | 2 => 2 | 168 => 159 | 53 => 162 | 175 => 163 | 46 => 165 | 210 => 168 | 127 => 174 | 145 => 177 | 143 => 175 | 21 => 21 | 171 => 178 | 173 => 181 | 212 => 187 | 51 => 188 | 20 => 20 | 213 => 189 | 232 => 192 | 233 => 193 | 80 => 59 | n => n, fun | 15 => 1 | 16 => 2 | 17 => 3 | 18 => 4 | 19 => 5 | n => n⟩
theorem Tryz.laysC172 : Go.Proofs.LaysC.n172 Tryz.prog Tryz.laysC172_ren := {
 mixed := by kernel_rfl
 f129 := Tryz.func178.trans (congrArg some (by kernel_rfl))
 f171 := Tryz.func150.trans (congrArg some (by kernel_rfl))
 f172 := Tryz.func140.trans (congrArg some (by kernel_rfl))
 f205 := Tryz.func163.trans (congrArg some (by kernel_rfl))
 f243 := Tryz.func158.trans (congrArg some (by kernel_rfl))
 f244 := Tryz.func147.trans (congrArg some (by kernel_rfl))
 f245 := Tryz.func148.trans (congrArg some (by kernel_rfl))
 f246 := Tryz.func164.trans (congrArg some (by kernel_rfl))
 f247 := Tryz.func153.trans (congrArg some (by kernel_rfl))
 f279 := Tryz.func154.trans (congrArg some (by kernel_rfl))
 f280 := Tryz.func155.trans (congrArg some (by kernel_rfl))
 f281 := Tryz.func156.trans (congrArg some (by kernel_rfl))
 f282 := Tryz.func157.trans (congrArg some (by kernel_rfl))
 f283 := Tryz.func171.trans (congrArg some (by kernel_rfl))
 f284 := Tryz.func172.trans (congrArg some (by kernel_rfl))
 f285 := Tryz.func173.trans (congrArg some (by kernel_rfl))
 f286 := Tryz.func174.trans (congrArg some (by kernel_rfl))
 f287 := Tryz.func161.trans (congrArg some (by kernel_rfl))
 f316 := Tryz.func162.trans (congrArg some (by kernel_rfl))
 f317 := Tryz.func177.trans (congrArg some (by kernel_rfl))
 f318 := Tryz.func179.trans (congrArg some (by kernel_rfl))
 f319 := Tryz.func180.trans (congrArg some (by kernel_rfl))
 f320 := Tryz.func181.trans (congrArg some (by kernel_rfl))
 f321 := Tryz.func169.trans (congrArg some (by kernel_rfl))
 f322 := Tryz.func170.trans (congrArg some (by kernel_rfl))
 f337 := Tryz.func182.trans (congrArg some (by kernel_rfl))
 f338 := Tryz.func183.trans (congrArg some (by kernel_rfl))
 t0 := Tryz.underlying0
 a0 := Tryz.isAgg0
 z0 := Tryz.sizeOf0
 v0 := Tryz.zeroValue0
 t2 := Tryz.underlying2
 a2 := Tryz.isAgg2
 z2 := Tryz.sizeOf2
 v2 := Tryz.zeroValue2
 t3 := Tryz.underlying3
 a3 := Tryz.isAgg3
 z3 := Tryz.sizeOf3
 v3 := Tryz.zeroValue3
 t4 := Tryz.underlying4
 a4 := Tryz.isAgg4
 z4 := Tryz.sizeOf4
 v4 := Tryz.zeroValue4
 t5 := Tryz.underlying5
 a5 := Tryz.isAgg5
 z5 := Tryz.sizeOf5
 v5 := Tryz.zeroValue5
 t9 := Tryz.underlying9
 a9 := Tryz.isAgg9
 z9 := Tryz.sizeOf9
 v9 := Tryz.zeroValue9
 t20 := Tryz.underlying20
 a20 := Tryz.isAgg20
 z20 := Tryz.sizeOf20
 v20 := Tryz.zeroValue20
 t21 := Tryz.underlying21
 a21 := Tryz.isAgg21
 z21 := Tryz.sizeOf21
 v21 := Tryz.zeroValue21
 t37 := Tryz.underlying156
 a37 := Tryz.isAgg156
 z37 := Tryz.sizeOf156
 v37 := Tryz.zeroValue156
 t46 := Tryz.underlying165
 a46 := Tryz.isAgg165
 z46 := Tryz.sizeOf165
 v46 := Tryz.zeroValue165
 t51 := Tryz.underlying188
 a51 := Tryz.isAgg188
 z51 := Tryz.sizeOf188
 v51 := Tryz.zeroValue188
 t53 := Tryz.underlying162
 a53 := Tryz.isAgg162
 z53 := Tryz.sizeOf162
 v53 := Tryz.zeroValue162
 t75 := Tryz.underlying149
 a75 := Tryz.isAgg149
 z75 := Tryz.sizeOf149
 v75 := Tryz.zeroValue149
 t76 := Tryz.underlying150
 a76 := Tryz.isAgg150
 z76 := Tryz.sizeOf150
 v76 := Tryz.zeroValue150
 t85 := Tryz.underlying157
 a85 := Tryz.isAgg157
 z85 := Tryz.sizeOf157
 v85 := Tryz.zeroValue157
 t127 := Tryz.underlying174
 a127 := Tryz.isAgg174
 z127 := Tryz.sizeOf174
 v127 := Tryz.zeroValue174
 t143 := Tryz.underlying175
 a143 := Tryz.isAgg175
 z143 := Tryz.sizeOf175
 v143 := Tryz.zeroValue175
 t145 := Tryz.underlying177
 a145 := Tryz.isAgg177
 z145 := Tryz.sizeOf177
 v145 := Tryz.zeroValue177
 t167 := Tryz.underlying155
 a167 := Tryz.isAgg155
 z167 := Tryz.sizeOf155
 v167 := Tryz.zeroValue155
 t168 := Tryz.underlying159
 a168 := Tryz.isAgg159
 z168 := Tryz.sizeOf159
 v168 := Tryz.zeroValue159
 t171 := Tryz.underlying178
 a171 := Tryz.isAgg178
 z171 := Tryz.sizeOf178
 v171 := Tryz.zeroValue178
 t173 := Tryz.underlying181
 a173 := Tryz.isAgg181
 z173 := Tryz.sizeOf181
 v173 := Tryz.zeroValue181
 t175 := Tryz.underlying163
 a175 := Tryz.isAgg163
 z175 := Tryz.sizeOf163
 v175 := Tryz.zeroValue163
 t210 := Tryz.underlying168
 a210 := Tryz.isAgg168
 z210 := Tryz.sizeOf168
 v210 := Tryz.zeroValue168
 t212 := Tryz.underlying187
 a212 := Tryz.isAgg187
 z212 := Tryz.sizeOf187
 v212 := Tryz.zeroValue187
 t213 := Tryz.underlying189
 a213 := Tryz.isAgg189
 z213 := Tryz.sizeOf189
 t232 := Tryz.underlying192
 a232 := Tryz.isAgg192
 z232 := Tryz.sizeOf192
 v232 := Tryz.zeroValue192
 t233 := Tryz.underlying193
 a233 := Tryz.isAgg193
 z233 := Tryz.sizeOf193
 v233 := Tryz.zeroValue193
 g15 := by kernel_rfl
 g16 := by kernel_rfl
 g17 := by kernel_rfl
 g18 := by kernel_rfl
 g19 := by kernel_rfl
 t80 := Tryz.underlying59
 a80 := Tryz.isAgg59
 z80 := Tryz.sizeOf59
 v80 := Tryz.zeroValue59
 i0 := by kernel_rfl
 i2 := by kernel_rfl
 i3 := by kernel_rfl
 i4 := by kernel_rfl
 i5 := by kernel_rfl
 i9 := by kernel_rfl
 i20 := by kernel_rfl
 i21 := by kernel_rfl
 i37 := by kernel_rfl
 i46 := by kernel_rfl
 i51 := by kernel_rfl
 i53 := by kernel_rfl
 i75 := by kernel_rfl
 i76 := by kernel_rfl
 i80 := by kernel_rfl
 i85 := by kernel_rfl
 i127 := by kernel_rfl
 i143 := by kernel_rfl
 i145 := by kernel_rfl
 i167 := by kernel_rfl
 i168 := by kernel_rfl
 i171 := by kernel_rfl
 i173 := by kernel_rfl
 i175 := by kernel_rfl
 i210 := by kernel_rfl
 i212 := by kernel_rfl
 i232 := by kernel_rfl
 i233 := by kernel_rfl
 m15 := by kernel_rfl
 m16 := by kernel_rfl
 m17 := by kernel_rfl
 m18 := by kernel_rfl
 m19 := by kernel_rfl
 c0 := by kernel_rfl
 c2 := by kernel_rfl
 c3 := by kernel_rfl
 c4 := by kernel_rfl
 c5 := by kernel_rfl
 c9 := by kernel_rfl
 c20 := by kernel_rfl
 c21 := by kernel_rfl
 c37 := by kernel_rfl
 c46 := by kernel_rfl
 c51 := by kernel_rfl
 c53 := by kernel_rfl
 c75 := by kernel_rfl
 c76 := by kernel_rfl
 c80 := by kernel_rfl
 c85 := by kernel_rfl
 c127 := by kernel_rfl
 c143 := by kernel_rfl
 c145 := by kernel_rfl
 c167 := by kernel_rfl
 c168 := by kernel_rfl
 c171 := by kernel_rfl
 c173 := by kernel_rfl
 c175 := by kernel_rfl
 c210 := by kernel_rfl
 c212 := by kernel_rfl
 c213 := by kernel_rfl
 c232 := by kernel_rfl
 c233 := by kernel_rfl }
open Go.RowKit in
theorem Tryz.strconv_Atoi_ok (s : ByteArray) (hmax : s.size ≤ 9223372036854775806) (v : Int) (h : Lib.atoiAll s.data.toList = .ok v) (w : World) :
  Calls Tryz.prog 140 #[.string s] w fun e w' => e = .returned (.tuple #[.int .i64 v, .nilIface]) ∧ (w' = w ∨ ∃ t, w' = Lib.bytesWorld w 5 t) := Any.strconv_Atoi_ok Tryz.laysC172 s hmax v h w
open Go.RowKit in
theorem Tryz.strconv_Atoi_syntax_var (s : ByteArray) (hlim : s.size ≤ 281474976710656) (h : Lib.atoiAll s.data.toList = Lib.atoiAll []) (tp : TypeId) (p : Value) (w : World) (hvar : w.var? Tryz.prog "strconv.ErrSyntax" = some #[.iface tp p]) :
  Calls Tryz.prog 140 #[.string s] w fun e w' => ∃ N, e = .returned (.tuple #[.int .i64 0, .iface 159 (.pointer (some ⟨N, 0, none⟩))]) ∧ w.heap.size ≤ N ∧ w'.heap[N]? = some (.cells #[.string ⟨#[65, 116, 111, 105]⟩, .string s, .iface tp p] 168 (0, 0)) ∧ Below w.heap.size w w' := Any.strconv_Atoi_syntax_var Tryz.laysC172 s hlim h tp p w hvar
open Go.RowKit in
theorem Tryz.strconv_Atoi_range_var (s : ByteArray) (hlim : s.size ≤ 281474976710656) (h : Lib.atoiAll s.data.toList = .range) (tp : TypeId) (p : Value) (w : World) (hvar : w.var? Tryz.prog "strconv.ErrRange" = some #[.iface tp p]) :
  Calls Tryz.prog 140 #[.string s] w fun e w' => ∃ N, e = .returned (.tuple #[.int .i64 (Lib.atoiSat s.data.toList), .iface 159 (.pointer (some ⟨N, 0, none⟩))]) ∧ w.heap.size ≤ N ∧ w'.heap[N]? = some (.cells #[.string ⟨#[65, 116, 111, 105]⟩, .string s, .iface tp p] 168 (0, 0)) ∧ Below w.heap.size w w' := Any.strconv_Atoi_range_var Tryz.laysC172 s hlim h tp p w hvar
end Go.Proofs
namespace Go.Proofs.YtifeonoehfffmaaGreatDoor
open Go.Ab Go.Tb
set_option maxRecDepth 10000
attribute [local irreducible] W WO Pu QS QB QL QF QV QV1 CH QE
theorem numB_size {n : Int} (h : n.natAbs < 10 ^ 20) : (numB n).size ≤ 21 := by
 have e : (numB n).size = (Lib.itoa n).length := Array.length_toList.symm
 rw [e]
 rcases Int.lt_or_le n 0 with hn | hn
 · rw [numB_neg hn, List.length_cons]; have := digB_len n.natAbs 19 h; omega
 · rw [numB_pos hn]; have := digB_len n.toNat 19 (by omega); omega
theorem within_fn (n : Int) (ok : Bool) : Does Tryz.prog 141 [.d (.v (.int .i64 n)), .d (.v (.bool ok))] (.tup [.d (.v (.int .i64 (if ok && inR n then n else 0))), .d (.v (.bool (ok && inR n)))]) 0 := by
 refine Does.of_W (n := 14) (ts := [4, 5]) Tryz.func141 (by kernel_rfl) rfl Tryz.ntmps141 Tryz.results141 rfl rfl fun C hC hG => ?_
 refine W.seq (W.region ?_)
 iterate 2 refine pE rfl ?_
 refine WO.nil (qs ?_)
 iterate 2 refine W.seq ?_
 apply regionB; (case hb => rfl)
 ·
  iterate 3 refine pE rfl ?_
  apply splitJ; (case hj => rfl); (case hl => rfl)
  ·
   iterate 3 refine skipT rfl rfl rfl rfl ?_
   refine pE rfl ?_
   refine WO.nil ?_
   refine qv1 rfl rfl rfl
  ·
   refine goG rfl rfl ?_
   refine pE rfl ?_
   refine goG rfl rfl ?_
   refine pu (puCall rfl rfl rfl (in_fn ..) rfl) rfl ?_
   refine goG rfl rfl ?_
   iterate 2 refine pE rfl ?_
   refine WO.nil ?_
   refine qv1 rfl rfl rfl
 refine qs ?_
 refine condK rfl (fun h12 => ?_) (fun h12 => ?_)
 ·
  refine W.seq (W.region ?_)
  iterate 2 refine pE rfl ?_
  refine WO.nil (qs (W.ret (qsRet ?_)))
  refine QF.ret0 trivial rfl ?_
  cases ok <;> cases h : inR n <;> simp_all [norm, normL, oneA]
 ·
  refine W.skip (qs (W.seq (W.region ?_)))
  iterate 3 refine pE rfl ?_
  refine WO.nil (qs (W.ret ?_))
  refine QF.ret0 trivial rfl ?_
  cases ok <;> cases h : inR n <;> simp_all [norm, normL, oneA]
end Go.Proofs.YtifeonoehfffmaaGreatDoor
namespace Go.Proofs.YtifeonoehfffmaaGreatDoor
open Go.Ab Go.Tb
set_option maxRecDepth 10000
attribute [local irreducible] W WO Pu QS QB QL QF QV QV1 CH QE
theorem num_of {w : World} (hu : Under Tryz.prog w) : MetNum Tryz.prog w := hu.num (fun _ h => h)
theorem numB_ok {n : Int} (h : n.natAbs < 10 ^ 20) : okc (.string (numB n)) = true := by
 have := numB_size h
 exact decide_eq_true (by simp only [maxLen]; omega)
theorem abs_int {n : Int} (h0 : -9223372036854775808 ≤ n) (h1 : n ≤ 9223372036854775807) : n.natAbs < 10 ^ 20 := by
 have hp : (10 : Nat) ^ 20 = 100000000000000000000 := by decide
 omega
open Go.RowKit in
theorem itoa_fn (n : Int) (h0 : -9223372036854775808 ≤ n) (h1 : n ≤ 9223372036854775807) : Does Tryz.prog 150 [.d (.v (.int .i64 n))] (.d (.v (.string (numB n)))) 0 :=
 Does.of_freshV (xs := [.int .i64 n]) ⟨_, Tryz.func150, by kernel_rfl, by kernel_rfl⟩ fun w hu _ =>
  (Tryz.strconv_Itoa n h0 h1 w (num_of hu).1).mono fun e w' ⟨he, k, os, hw⟩ =>
   ⟨_, he, hw ▸ Lib.below_grow _ w (Nat.le_refl _) k os, fun _ _ _ => .d (.v _ (numB_ok (abs_int h0 h1)))⟩
theorem text_fn (n : Int) (h0 : -9223372036854775808 ≤ n) (h1 : n ≤ 9223372036854775807) : Does Tryz.prog 142 [.d (.v (.int .i64 n))] (.d (.v (.string (numB n)))) 0 := by
 refine Does.of_W (n := 5) (ts := [2]) Tryz.func142 (by kernel_rfl) rfl Tryz.ntmps142 Tryz.results142 rfl rfl fun C hC hG => ?_
 refine W.seq (W.region ?_)
 refine pE rfl ?_
 refine WO.nil (qs (W.seq (W.region ?_)))
 refine pE rfl ?_
 refine pu (puCall rfl rfl rfl ((itoa_fn _ (by assumption) (by assumption))) rfl) rfl ?_
 refine pE rfl ?_
 refine WO.nil (qs (W.ret ?_))
 refine QF.ret0 trivial rfl ?_
 rfl
def atoiA (s : ByteArray) : A :=
 match Lib.atoiAll s.data.toList with
 | .ok v => .tup [.d (.v (.int .i64 v)), .d (.v .nilIface)]
 | .range => .tup [.d (.v (.int .i64 (Lib.atoiSat s.data.toList))), .ni]
 | _ => .tup [.d (.v (.int .i64 0)), .ni]
theorem sat_ok (l : List UInt8) : okc (.int .i64 (Lib.atoiSat l)) = true := by
 unfold Lib.atoiSat
 split <;> (try split) <;> decide
open Go.RowKit in
theorem atoi_fn (s : ByteArray) (hs : s.size ≤ 281474976710656) : Does Tryz.prog 140 [.d (.v (.string s))] (atoiA s) 0 :=
 Does.of_freshV (xs := [.string s]) ⟨_, Tryz.func140, by kernel_rfl, by kernel_rfl⟩ fun w hu _ => by
  obtain ⟨_, ⟨t, p, h2⟩, t', p', h3⟩ := num_of hu
  unfold atoiA
  cases h : Lib.atoiAll s.data.toList with
  | ok v =>
   have hb := Lib.atoiAll_bounds h
   refine (Tryz.strconv_Atoi_ok s (by omega) v h w).mono fun e w' ⟨he, hw⟩ => ⟨_, he, ?_, fun _ _ _ => pairRep (.d (.v _ ?_)) (.d (.v _ rfl))⟩
   ·
    rcases hw with rfl | ⟨t, rfl⟩
    · exact Below.refl _ _
    · exact Joins.below_bytesWorld _ w _ _ (Nat.le_refl _)
   ·
    simp [okc, IntKind.min, IntKind.max, IntKind.signed, IntKind.bits]
    omega
  | range =>
   exact (Tryz.strconv_Atoi_range_var s hs h t' p' w h3).mono fun e w' ⟨N, he, _, _, hb⟩ => ⟨_, he, hb, fun _ _ _ => pairRep (.d (.v _ (sat_ok _))) (.ni _ _)⟩
  | _ =>
   exact (Tryz.strconv_Atoi_syntax_var s hs h t p w h2).mono fun e w' ⟨N, he, _, _, hb⟩ => ⟨_, he, hb, fun _ _ _ => pairRep (.d (.v _ (by decide))) (.ni _ _)⟩
end Go.Proofs.YtifeonoehfffmaaGreatDoor
namespace Go.Proofs.YtifeonoehfffmaaGreatDoor
open Go.Ab Go.Tb
set_option maxRecDepth 10000
attribute [local irreducible] W WO Pu QS QB QL QF QV QV1 CH QE
end Go.Proofs.YtifeonoehfffmaaGreatDoor
namespace Go.Proofs.YtifeonoehfffmaaGreatDoor
open Go.Ab Go.Tb
set_option maxRecDepth 10000
attribute [local irreducible] W WO Pu QS QB QL QF QV QV1 CH QE
end Go.Proofs.YtifeonoehfffmaaGreatDoor
namespace Go.Proofs.YtifeonoehfffmaaGreatDoor
open Go.Ab Go.Tb
set_option maxRecDepth 10000
attribute [local irreducible] W WO Pu QS QB QL QF QV QV1 CH QE
theorem texts_fn (a b : List ByteArray) : Does Tryz.prog 73 [.d (.sl (txs a)), .d (.sl (txs b))] (.d (.v (.bool (decide (a = b))))) 0 := by
 refine Does.of_W (n := 26) (ts := [4]) Tryz.func73 (by kernel_rfl) rfl Tryz.ntmps73 Tryz.results73 rfl rfl fun C hC hG => ?_
 refine W.seq (W.region ?_)
 refine pE rfl ?_
 refine WO.nil (qs ?_)
 iterate 2 refine W.seq ?_
 refine W.region ?_
 iterate 5 refine pE rfl ?_
 refine WO.nil (qs ?_)
 refine condK rfl (fun h10 => ?_) (fun h10 => ?_)
 ·
  have hg : decide (a = b) = false := by simp at h10 ⊢; rintro rfl; simp at h10
  refine W.seq (W.region ?_)
  refine pE rfl ?_
  refine WO.nil (qs (W.ret (qsRet ?_)))
  refine QF.ret0 trivial rfl ?_
  rw [hg]; rfl
 ·
  have hl : a.length = b.length := by simp at h10; omega
  refine W.skip (qs ?_)
  iterate 2 refine W.seq ?_
  refine W.region ?_
  refine pE rfl ?_
  refine WO.nil (qs (W.block ?_))
  refine W.len (t := 0) rfl rfl (fun hlen => ?_)
  try simp only [List.length_map, Ex.kc_len] at hlen
  refine W.loopR (ι := {x : Nat // match x with | k => k ≤ a.length ∧ decide (a.drop k = b.drop k) = decide (a = b)})
   (fun x => match x.1 with | k => [(5, .d (.v (.int .i64 ((k : Nat) : Int))))]) [(0, _), (1, _)]
   (fun x => match x.1 with | k => []) [] [] 0 (fun x => match x.1 with | k => a.length - k)
   [] ⟨0, ?_⟩ rfl ?_ ⟨rfl, rfl, rfl, rfl, trivial⟩ ?_ trivial rfl ?_
  · first | exact ⟨Nat.zero_le _, rfl⟩ | exact trivial | simp
  · repeat' first | exact trivial | refine ⟨rfl, ?_⟩ | refine ⟨step_nat (by assumption) (by assumption), ?_⟩
  · repeat' first | exact trivial | refine ⟨rfl, ?_⟩ | refine ⟨step_nat (by assumption) (by assumption), ?_⟩
  rintro ⟨k, hk, hI⟩
  show W _ _ _ _ _ ⟨[(5, .d (.v (.int .i64 ((k : Nat) : Int)))), (0, _), (1, _)], [], [], 0⟩
  iterate 2 refine W.seq ?_
  refine W.region ?_
  iterate 4 refine pE rfl ?_
  refine WO.nil (qs ?_)
  refine eachR (l := a) (k := k) rfl (by simp [Ex.kc_len, bytes_len]) hk (fun x hx hd hlt => ?_) (fun he hd => ?_)
  ·
   obtain ⟨y, hy, hyd⟩ := exAt (l := b) (k := k) (by omega)
   rw [hd, hyd] at hI
   refine W.skip (qs (W.seq (W.block (W.seq ?_))))
   refine W.regionD tab (by kernel_rfl) ?_
   iterate 2 refine chPu (ev tab rfl) rfl ?_
   refine chPu (indexAddr tab rfl rfl rfl rfl rfl rfl (Int.natCast_nonneg _) (idx_map hx) rfl) rfl ?_
   first | refine chPu (ev tab rfl) rfl ?_ | refine chPu (loadRow tab rfl rfl rfl rfl) rfl ?_ | refine chPu (loadBox tab rfl rfl rfl rfl rfl) rfl ?_
   iterate 2 refine chPu (ev tab rfl) rfl ?_
   refine chPu (indexAddr tab rfl rfl rfl rfl rfl rfl (Int.natCast_nonneg _) (idx_map hy) rfl) rfl ?_
   first | refine chPu (ev tab rfl) rfl ?_ | refine chPu (loadRow tab rfl rfl rfl rfl) rfl ?_ | refine chPu (loadBox tab rfl rfl rfl rfl rfl) rfl ?_
   refine chPu (ev tab rfl) rfl ?_
   refine CH.nil ?_
   refine qs ?_
   refine condK rfl (fun h25 => ?_) (fun h25 => ?_)
   ·
    have hxy : x ≠ y := by rintro rfl; simp at h25
    have hg : decide (a = b) = false := by rw [← hI]; simp [hxy]
    refine W.seq (W.region ?_)
    refine pE rfl ?_
    refine WO.nil (qs (W.ret (qbRet (qsRet (qlRet (qbRet (qsRet ?_)))))))
    refine QF.ret0 trivial rfl ?_
    rw [hg]; rfl
   ·
    have hxy : x = y := by simpa using h25
    refine W.skip (qbN (qs (W.region ?_)))
    iterate 3 refine pE rfl ?_
    refine WO.nil ?_
    refine W.endR [] ⟨k + 1, ?_⟩ ?_ rfl ?_ ⟨rfl, rfl, rfl, rfl, trivial⟩ ?_ trivial rfl
    ·
     refine ⟨hlt, ?_⟩
     rw [← hI, hxy]
     simp
    · dsimp only; omega
    · repeat' first | exact trivial | refine ⟨rfl, ?_⟩ | refine ⟨step_nat (by assumption) (by assumption), ?_⟩
    · repeat' first | exact trivial | refine ⟨rfl, ?_⟩ | refine ⟨step_nat (by assumption) (by assumption), ?_⟩
  ·
   rw [hd, dropEnd (l := b) (by omega)] at hI
   refine W.exit (qsExit (qlExit (qbExit (qs (W.seq (W.region ?_))))))
   refine pE rfl ?_
   refine WO.nil (qs (W.ret ?_))
   refine QF.ret0 trivial rfl ?_
   rw [← hI]; rfl
end Go.Proofs.YtifeonoehfffmaaGreatDoor
namespace Go.Proofs.YtifeonoehfffmaaGreatDoor
open Go.Ab Go.Tb
set_option maxRecDepth 10000
attribute [local irreducible] W WO Pu QS QB QL QF QV QV1 CH QE
theorem nparse_ok (s : ByteArray) (v : Int) (h : Lib.atoiAll s.data.toList = .ok v) : numP s = (if (if numB v = s then true else false) && inR v then (v, true) else (0, false)) := by
 unfold numP
 rw [h]
 by_cases h1 : numB v = s <;> by_cases h2 : inR v = true <;> simp [h1, h2]
theorem sat_in (l : List UInt8) : -9223372036854775808 ≤ Lib.atoiSat l ∧ Lib.atoiSat l ≤ 9223372036854775807 := by
 unfold Lib.atoiSat
 split <;> decide
theorem nparse_fn (s : ByteArray) (hs : s.size ≤ 281474976710656) : Does Tryz.prog 131 [.d (.v (.string s))] (.tup [.d (.v (.int .i64 (numP s).1)), .d (.v (.bool (numP s).2))]) 0 := by
 have ha := atoi_fn s hs
 unfold atoiA at ha
 cases h : Lib.atoiAll s.data.toList with
 | ok v =>
  rw [h] at ha
  have hb := Lib.atoiAll_bounds h
  have hp := nparse_ok s v h
  refine Does.of_W (n := 23) (ts := [2, 3]) Tryz.func131 (by kernel_rfl) rfl Tryz.ntmps131 Tryz.results131 rfl rfl fun C hC hG => ?_
  refine W.seq (W.region ?_)
  iterate 2 refine pE rfl ?_
  refine WO.nil (qs (W.seq (W.region ?_)))
  refine pE rfl ?_
  refine pu (puCall rfl rfl rfl ha rfl) rfl ?_
  iterate 5 refine pE rfl ?_
  refine WO.nil (qs (W.seq (W.region ?_)))
  iterate 2 refine pE rfl ?_
  refine pu (nilEq rfl (by kernel_rfl)) rfl ?_
  refine pE rfl ?_
  refine splitG rfl rfl (fun _ => ?_) (fun _ => ?_)
  ·
   refine goG rfl rfl ?_
   refine pE rfl ?_
   refine goG rfl rfl ?_
   refine pu (puCall rfl rfl rfl (text_fn v hb.1 hb.2) rfl) rfl ?_
   refine goG rfl rfl ?_
   refine pE rfl ?_
   refine goG rfl rfl ?_
   iterate 2 refine pE rfl ?_
   refine pu (puCall rfl rfl rfl (within_fn ..) rfl) rfl ?_
   iterate 4 refine pE rfl ?_
   refine WO.nil (qs (W.ret ?_))
   refine QF.ret0 trivial rfl ?_
   first | contradiction | (rw [hp]; simp only [norm, normL, oneA]; by_cases h1 : numB v = s <;> by_cases h2 : inR v = true <;> simp [h1, h2])
  ·
   iterate 4 refine skipT rfl rfl rfl rfl ?_
   refine pE rfl ?_
   refine pu (puCall rfl rfl rfl (within_fn ..) rfl) rfl ?_
   iterate 4 refine pE rfl ?_
   refine WO.nil (qs (W.ret ?_))
   refine QF.ret0 trivial rfl ?_
   first | contradiction | (rw [hp]; simp only [norm, normL, oneA]; by_cases h1 : numB v = s <;> by_cases h2 : inR v = true <;> simp [h1, h2])
 | range =>
  rw [h] at ha
  have hp : numP s = (0, false) := by unfold numP; rw [h]
  refine Does.of_W (n := 23) (ts := [2, 3]) Tryz.func131 (by kernel_rfl) rfl Tryz.ntmps131 Tryz.results131 rfl rfl fun C hC hG => ?_
  refine W.seq (W.region ?_)
  iterate 2 refine pE rfl ?_
  refine WO.nil (qs (W.seq (W.region ?_)))
  refine pE rfl ?_
  refine pu (puCall rfl rfl rfl ha rfl) rfl ?_
  iterate 5 refine pE rfl ?_
  refine WO.nil (qs (W.seq (W.region ?_)))
  iterate 2 refine pE rfl ?_
  refine pu (niEq rfl (by kernel_rfl)) rfl ?_
  refine pE rfl ?_
  refine splitG rfl rfl (fun _ => ?_) (fun _ => ?_)
  ·
   refine goG rfl rfl ?_
   refine pE rfl ?_
   refine goG rfl rfl ?_
   refine pu (puCall rfl rfl rfl (text_fn _ (sat_in _).1 (sat_in _).2) rfl) rfl ?_
   refine goG rfl rfl ?_
   refine pE rfl ?_
   refine goG rfl rfl ?_
   iterate 2 refine pE rfl ?_
   refine pu (puCall rfl rfl rfl (within_fn ..) rfl) rfl ?_
   iterate 4 refine pE rfl ?_
   refine WO.nil (qs (W.ret ?_))
   refine QF.ret0 trivial rfl ?_
   first | contradiction | (rw [hp]; rfl)
  ·
   iterate 4 refine skipT rfl rfl rfl rfl ?_
   refine pE rfl ?_
   refine pu (puCall rfl rfl rfl (within_fn ..) rfl) rfl ?_
   iterate 4 refine pE rfl ?_
   refine WO.nil (qs (W.ret ?_))
   refine QF.ret0 trivial rfl ?_
   first | contradiction | (rw [hp]; rfl)
 | _ =>
  rw [h] at ha
  have hp : numP s = (0, false) := by unfold numP; rw [h]
  refine Does.of_W (n := 23) (ts := [2, 3]) Tryz.func131 (by kernel_rfl) rfl Tryz.ntmps131 Tryz.results131 rfl rfl fun C hC hG => ?_
  refine W.seq (W.region ?_)
  iterate 2 refine pE rfl ?_
  refine WO.nil (qs (W.seq (W.region ?_)))
  refine pE rfl ?_
  refine pu (puCall rfl rfl rfl ha rfl) rfl ?_
  iterate 5 refine pE rfl ?_
  refine WO.nil (qs (W.seq (W.region ?_)))
  iterate 2 refine pE rfl ?_
  refine pu (niEq rfl (by kernel_rfl)) rfl ?_
  refine pE rfl ?_
  refine splitG rfl rfl (fun _ => ?_) (fun _ => ?_)
  ·
   refine goG rfl rfl ?_
   refine pE rfl ?_
   refine goG rfl rfl ?_
   refine pu (puCall rfl rfl rfl (text_fn 0 (by decide) (by decide)) rfl) rfl ?_
   refine goG rfl rfl ?_
   refine pE rfl ?_
   refine goG rfl rfl ?_
   iterate 2 refine pE rfl ?_
   refine pu (puCall rfl rfl rfl (within_fn ..) rfl) rfl ?_
   iterate 4 refine pE rfl ?_
   refine WO.nil (qs (W.ret ?_))
   refine QF.ret0 trivial rfl ?_
   first | contradiction | (rw [hp]; rfl)
  ·
   iterate 4 refine skipT rfl rfl rfl rfl ?_
   refine pE rfl ?_
   refine pu (puCall rfl rfl rfl (within_fn ..) rfl) rfl ?_
   iterate 4 refine pE rfl ?_
   refine WO.nil (qs (W.ret ?_))
   refine QF.ret0 trivial rfl ?_
   first | contradiction | (rw [hp]; rfl)
end Go.Proofs.YtifeonoehfffmaaGreatDoor
namespace Go.Proofs.YtifeonoehfffmaaGreatDoor
open Go.Ab Go.Tb
set_option maxRecDepth 10000
attribute [local irreducible] W WO Pu QS QB QL QF QV QV1 CH QE
theorem ident_fn (s : ByteArray) : Does Tryz.prog 41 [.d (.v (.string s))] (.d (.v (.bool (identB s)))) 0 := by
 refine Does.of_W (n := 71) (ts := [2]) Tryz.func41 (by kernel_rfl) rfl Tryz.ntmps41 Tryz.results41 rfl rfl fun C hC hG => ?_
 refine W.inRange (t := 0) rfl (fun hok => ?_)
 have hlen2 := okc_size hok
 have hlen : words.length ≤ maxLen := by decide
 refine W.seq (W.region ?_)
 refine pE rfl ?_
 refine WO.nil (qs (W.seq (W.region ?_)))
 refine pu (buildV tab rfl rfl rfl rfl rfl rfl rfl rfl rfl) rfl ?_
 refine pE rfl ?_
 refine WO.nil (qs ?_)
 iterate 2 refine W.seq ?_
 refine W.region ?_
 refine pE rfl ?_
 refine WO.nil (qs (W.block ?_))
 refine W.loopR (ι := {x : Nat // match x with | k => k ≤ words.length ∧ noneBefore (fun x => decide (s = x)) words k})
  (fun x => match x.1 with | k => [(4, .d (.v (.int .i64 ((k : Nat) : Int))))]) [(0, _), (3, _)]
  (fun x => match x.1 with | k => []) [] [] 0 (fun x => match x.1 with | k => words.length - k)
  [] ⟨0, ?_⟩ rfl ?_ ⟨rfl, rfl, rfl, rfl, trivial⟩ ?_ trivial rfl ?_
 · exact ⟨Nat.zero_le _, noneBefore.zero⟩
 · repeat' first | exact trivial | refine ⟨rfl, ?_⟩ | refine ⟨step_nat (by assumption) (by assumption), ?_⟩
 · repeat' first | exact trivial | refine ⟨rfl, ?_⟩ | refine ⟨step_nat (by assumption) (by assumption), ?_⟩
 rintro ⟨k, hk, hI⟩
 show W _ _ _ _ _ ⟨[(4, .d (.v (.int .i64 ((k : Nat) : Int)))), (0, _), (3, _)], [], [], 0⟩
 iterate 2 refine W.seq ?_
 refine W.region ?_
 iterate 4 refine pE rfl ?_
 refine WO.nil (qs ?_)
 refine eachR (l := words) (k := k) rfl (by rfl) hk (fun x hx hd hlt => ?_) (fun he hd => ?_)
 ·
  refine W.skip (qs (W.seq (W.block (W.seq (W.region ?_)))))
  iterate 3 refine pE rfl ?_
  refine pu (indexAddr tab rfl rfl rfl rfl rfl rfl (Int.natCast_nonneg _) (idx_map (f := sc) (l := words) hx) rfl) rfl ?_
  first | refine pE rfl ?_ | refine pR rfl rfl rfl rfl rfl ?_ | refine pB rfl rfl rfl rfl rfl rfl ?_
  refine pE rfl ?_
  refine WO.nil (qs ?_)
  refine condK rfl (fun h20 => ?_) (fun h20 => ?_)
  ·
   refine W.seq (W.region ?_)
   refine pE rfl ?_
   refine WO.nil (qs (W.ret (qbRet (qsRet (qlRet (qbRet (qsRet ?_)))))))
   refine QF.ret0 trivial rfl ?_
   simp only [norm, oneA, identB]; rw [any_of_at hx h20]; simp
  ·
   refine W.skip (qbN (qs (W.region ?_)))
   iterate 3 refine pE rfl ?_
   refine WO.nil ?_
   refine W.endR [] ⟨k + 1, ?_⟩ ?_ rfl ?_ ⟨rfl, rfl, rfl, rfl, trivial⟩ ?_ trivial rfl
   · exact ⟨hlt, hI.step hx h20⟩
   · dsimp only; omega
   · repeat' first | exact trivial | refine ⟨rfl, ?_⟩ | refine ⟨step_nat (by assumption) (by assumption), ?_⟩
   · repeat' first | exact trivial | refine ⟨rfl, ?_⟩ | refine ⟨step_nat (by assumption) (by assumption), ?_⟩
 ·
  refine W.exit (qsExit (qlExit (qbExit (qs ?_))))
  iterate 2 refine W.seq ?_
  refine W.region ?_
  refine pE rfl ?_
  refine WO.nil (qs (W.block ?_))
  have hw := hI.end_ he
  clear hI hk he hd hlen
  have hlen := hlen2
  refine W.loopR (ι := {x : Nat // match x with | k => k ≤ (bys s).length ∧ ((bys s).drop k).all idChar = (bys s).all idChar ∧ (0 < k → lower ((bys s).headD 0) = true)})
   (fun x => match x.1 with | k => [(5, .d (.v (.int .i64 ((k : Nat) : Int))))]) [(0, _)]
   (fun x => match x.1 with | k => []) [] [] 0 (fun x => match x.1 with | k => (bys s).length - k)
   [] ⟨0, ?_⟩ rfl ?_ ⟨rfl, rfl, trivial⟩ ?_ trivial rfl ?_
  · exact ⟨Nat.zero_le _, rfl, fun h => absurd h (Nat.lt_irrefl _)⟩
  · repeat' first | exact trivial | refine ⟨rfl, ?_⟩ | refine ⟨step_nat (by assumption) (by assumption), ?_⟩
  · repeat' first | exact trivial | refine ⟨rfl, ?_⟩ | refine ⟨step_nat (by assumption) (by assumption), ?_⟩
  rintro ⟨k, hk, hI, hJ⟩
  show W _ _ _ _ _ ⟨[(5, .d (.v (.int .i64 ((k : Nat) : Int)))), (0, _)], [], [], 0⟩
  iterate 2 refine W.seq ?_
  refine W.region ?_
  iterate 4 refine pE rfl ?_
  refine WO.nil (qs ?_)
  refine eachR (l := bys s) (k := k) rfl (by simp [Ex.kc_len, bytes_len]) hk (fun b hx hd hlt => ?_) (fun he hd => ?_)
  ·
   rw [hd, List.all_cons] at hI
   have hh := head_at hx
   refine W.skip (qs (W.seq (W.block (W.seq ?_))))
   apply regionB; (case hb => rfl)
   ·
    iterate 2 refine pE rfl ?_
    refine pu (indexStr tab rfl rfl rfl rfl (Int.natCast_nonneg _) (byteList (by assumption))) rfl ?_
    iterate 2 refine pE rfl ?_
    apply splitJ; (case hj => rfl); (case hl => rfl)
    ·
     refine goG rfl rfl ?_
     refine pE rfl ?_
     refine goG rfl rfl ?_
     refine pE rfl ?_
     refine goG rfl rfl ?_
     refine pu (indexStr tab rfl rfl rfl rfl (Int.natCast_nonneg _) (byteList (by assumption))) rfl ?_
     refine goG rfl rfl ?_
     iterate 3 refine pE rfl ?_
     refine WO.nil ?_
     refine qv1 rfl rfl rfl
    ·
     iterate 4 refine skipT rfl rfl rfl rfl ?_
     iterate 2 refine pE rfl ?_
     refine WO.nil ?_
     refine qv1 rfl rfl rfl
   refine qs (W.seq ?_)
   apply regionB; (case hb => rfl)
   ·
    iterate 2 refine pE rfl ?_
    refine pu (indexStr tab rfl rfl rfl rfl (Int.natCast_nonneg _) (byteList (by assumption))) rfl ?_
    iterate 2 refine pE rfl ?_
    apply splitJ; (case hj => rfl); (case hl => rfl)
    ·
     refine goG rfl rfl ?_
     refine pE rfl ?_
     refine goG rfl rfl ?_
     refine pE rfl ?_
     refine goG rfl rfl ?_
     refine pu (indexStr tab rfl rfl rfl rfl (Int.natCast_nonneg _) (byteList (by assumption))) rfl ?_
     refine goG rfl rfl ?_
     iterate 3 refine pE rfl ?_
     apply splitJ; (case hj => rfl); (case hl => rfl)
     ·
      iterate 4 refine skipT rfl rfl rfl rfl ?_
      iterate 2 refine pE rfl ?_
      refine WO.nil ?_
      refine qv1 rfl rfl rfl
     ·
      refine goG rfl rfl ?_
      refine pE rfl ?_
      refine goG rfl rfl ?_
      refine pE rfl ?_
      refine goG rfl rfl ?_
      refine pu (indexStr tab rfl rfl rfl rfl (Int.natCast_nonneg _) (byteList (by assumption))) rfl ?_
      refine goG rfl rfl ?_
      iterate 3 refine pE rfl ?_
      refine WO.nil ?_
      refine qv1 rfl rfl rfl
    ·
     iterate 4 refine skipT rfl rfl rfl rfl ?_
     iterate 2 refine pE rfl ?_
     refine goG rfl rfl ?_
     refine pE rfl ?_
     refine goG rfl rfl ?_
     refine pE rfl ?_
     refine goG rfl rfl ?_
     refine pu (indexStr tab rfl rfl rfl rfl (Int.natCast_nonneg _) (byteList (by assumption))) rfl ?_
     refine goG rfl rfl ?_
     iterate 3 refine pE rfl ?_
     refine WO.nil ?_
     refine qv1 rfl rfl rfl
   refine qs (W.seq ?_)
   apply regionB; (case hb => rfl)
   ·
    iterate 3 refine pE rfl ?_
    apply splitJ; (case hj => rfl); (case hl => rfl)
    ·
     refine goG rfl rfl ?_
     refine pE rfl ?_
     refine goG rfl rfl ?_
     refine pE rfl ?_
     refine goG rfl rfl ?_
     refine pE rfl ?_
     apply splitJ; (case hj => rfl); (case hl => rfl)
     ·
      iterate 2 refine skipT rfl rfl rfl rfl ?_
      refine goG rfl rfl ?_
      iterate 2 refine pE rfl ?_
      refine WO.nil ?_
      refine qv1 rfl rfl rfl
     ·
      refine goG rfl rfl ?_
      refine pE rfl ?_
      refine goG rfl rfl ?_
      refine pE rfl ?_
      refine goG rfl rfl ?_
      iterate 2 refine pE rfl ?_
      refine WO.nil ?_
      refine qv1 rfl rfl rfl
    ·
     iterate 3 refine skipT rfl rfl rfl rfl ?_
     iterate 2 refine skipU rfl rfl rfl ?_
     refine skipT rfl rfl rfl rfl ?_
     refine pE rfl ?_
     refine WO.nil ?_
     refine qv1 rfl rfl rfl
   refine qs ?_
   refine condK rfl (fun h62 => ?_) (fun h62 => ?_)
   ·
    refine W.seq (W.region ?_)
    refine pE rfl ?_
    refine WO.nil (qs (W.ret (qbRet (qsRet (qlRet (qbRet (qsRet ?_)))))))
    refine QF.ret0 trivial rfl ?_
    have key : idChar b = false ∨ (k = 0 ∧ lower b = false) := by clear hh hlt hd hx hJ hI hk hw hlen hlen2 hok; simp only [idChar, lower]; grind
    simp only [norm, oneA, identB, ← hI]
    rcases key with h | ⟨h, h'⟩
    · simp [h]
    · rw [hh h, h']; simp
   ·
    refine W.skip (qbN (qs (W.region ?_)))
    iterate 3 refine pE rfl ?_
    refine WO.nil ?_
    refine W.endR [] ⟨k + 1, ?_⟩ ?_ rfl ?_ ⟨rfl, rfl, trivial⟩ ?_ trivial rfl
    ·
     have key : idChar b = true ∧ (k = 0 → lower b = true) := by clear hh hlt hd hx hJ hI hk hw hlen hlen2 hok; simp only [idChar, lower]; grind
     refine ⟨hlt, ?_, fun _ => ?_⟩
     · rw [← hI, key.1]; rfl
     ·
      rcases Nat.eq_zero_or_pos k with h | h
      · rw [hh h]; exact key.2 h
      · exact hJ h
    · dsimp only; omega
    · repeat' first | exact trivial | refine ⟨rfl, ?_⟩ | refine ⟨step_nat (by assumption) (by assumption), ?_⟩
    · repeat' first | exact trivial | refine ⟨rfl, ?_⟩ | refine ⟨step_nat (by assumption) (by assumption), ?_⟩
  ·
   rw [hd] at hI
   refine W.exit (qsExit (qlExit (qbExit (qs (W.seq ?_)))))
   apply regionB; (case hb => rfl)
   ·
    iterate 4 refine pE rfl ?_
    apply splitJ; (case hj => rfl); (case hl => rfl)
    ·
     refine goG rfl rfl ?_
     refine pE rfl ?_
     refine goG rfl rfl ?_
     refine pE rfl ?_
     refine goG rfl rfl ?_
     iterate 3 refine pE rfl ?_
     refine WO.nil ?_
     refine qv1 rfl rfl rfl
    ·
     iterate 3 refine skipT rfl rfl rfl rfl ?_
     iterate 2 refine pE rfl ?_
     refine WO.nil ?_
     refine qv1 rfl rfl rfl
   refine qs (W.ret ?_)
   refine QF.ret0 trivial rfl ?_
   simp only [norm, oneA, identB, ← hI]
   rw [any_of_none hw]
   have e : s = B #[] ↔ s.size = 0 := by rw [empty_bytes, ← bytes_len]; exact List.length_eq_zero_iff.symm
   have e2 : ¬ s.size = 0 → lower ((bys s).headD 0) = true := fun h => hJ (by have := bytes_len s; omega)
   clear hI hJ hw hlen hlen2 hok hd
   simp only [List.all_nil, B, e]
   rcases Nat.eq_zero_or_pos s.size with h | h
   · simp [h]
   ·
    have h' := e2 (by omega)
    rw [h']
    refine congrArg (fun z => A.d (.v (.bool z))) ?_
    rw [Bool.eq_iff_iff]
    generalize s.size = m at h
    simp
    omega
theorem constant_fn (v : Val) : Does Tryz.prog 134 [.ag v.c] (.d (.v (.int .i64 (constErr v)))) 0 := by
 refine Does.of_W (n := 34) (ts := [2]) Tryz.func134 (by kernel_rfl) rfl Tryz.ntmps134 Tryz.results134 rfl rfl fun C hC hG => ?_
 refine W.seq (W.region ?_)
 refine boxR rfl rfl rfl ?_
 refine pE rfl ?_
 refine WO.nil (qs ?_)
 iterate 2 refine W.seq ?_
 refine W.region ?_
 refine pE rfl ?_
 first | refine pE rfl ?_ | refine pR rfl rfl rfl rfl rfl ?_ | refine pB rfl rfl rfl rfl rfl rfl ?_
 first | refine pE rfl ?_ | refine pR rfl rfl rfl rfl rfl ?_ | refine pB rfl rfl rfl rfl rfl rfl ?_
 refine pu (puCall rfl rfl rfl (value_fn ..) rfl) rfl ?_
 refine pE rfl ?_
 refine WO.nil (qs (W.seq (W.region ?_)))
 iterate 2 refine pE rfl ?_
 refine WO.nil (qs ?_)
 refine condK rfl (fun h11 => ?_) (fun h11 => ?_)
 ·
  refine W.seq (W.region ?_)
  iterate 2 refine pE rfl ?_
  refine WO.nil (qs (W.ret (qsRet ?_)))
  refine QF.ret0 trivial rfl ?_
  simp only [norm, oneA]; grind [constErr]
 ·
  refine W.skip (qs ?_)
  iterate 2 refine W.seq ?_
  refine W.region ?_
  refine pE rfl ?_
  first | refine pE rfl ?_ | refine pR rfl rfl rfl rfl rfl ?_ | refine pB rfl rfl rfl rfl rfl rfl ?_
  iterate 2 refine pE rfl ?_
  refine WO.nil (qs (W.block ?_))
  refine W.inRange (t := 14) rfl (fun hok => ?_)
  have hlen := okc_size hok
  refine W.loopR (ι := {x : Nat // match x with | k => k ≤ (bys v.s).length ∧ ((bys v.s).drop k).any badChar = (bys v.s).any badChar})
   (fun x => match x.1 with | k => [(1, .ptr 0 0), (16, .d (.v (.int .i64 ((k : Nat) : Int))))]) [(15, _)]
   (fun x => match x.1 with | k => []) [(0, _)] [] 1 (fun x => match x.1 with | k => (bys v.s).length - k)
   [0] ⟨0, ?_⟩ rfl ?_ ⟨rfl, rfl, trivial⟩ ?_ ⟨rfl, rfl, trivial⟩ rfl ?_
  · first | exact ⟨Nat.zero_le _, rfl⟩ | exact trivial | simp
  · repeat' first | exact trivial | refine ⟨rfl, ?_⟩ | refine ⟨step_nat (by assumption) (by assumption), ?_⟩
  · repeat' first | exact trivial | refine ⟨rfl, ?_⟩ | refine ⟨step_nat (by assumption) (by assumption), ?_⟩
  rintro ⟨k, hk, hI⟩
  show W _ _ _ _ _ ⟨[(1, .ptr 0 0), (16, .d (.v (.int .i64 ((k : Nat) : Int)))), (15, _)], [(0, _)], [], 1⟩
  refine W.seq (W.region ?_)
  refine pE rfl ?_
  refine WO.nil (qs (W.seq ?_))
  refine eachR (l := bys v.s) (k := k) rfl (by simp [Ex.kc_len, bytes_len]) hk (fun b hx hd hlt => ?_) (fun he hd => ?_)
  ·
   rw [hd, List.any_cons] at hI
   refine W.skip (qs (W.seq (W.block (W.seq (W.region ?_)))))
   iterate 2 refine pE rfl ?_
   refine WO.nil (qs (W.seq (W.region ?_)))
   refine pE rfl ?_
   first | refine pE rfl ?_ | refine pR rfl rfl rfl rfl rfl ?_ | refine pB rfl rfl rfl rfl rfl rfl ?_
   refine pE rfl ?_
   refine pu (indexStr tab rfl rfl rfl rfl (Int.natCast_nonneg _) (byteList (by assumption))) rfl ?_
   refine pE rfl ?_
   refine WO.nil (qs (W.seq ?_))
   apply regionB; (case hb => rfl)
   ·
    iterate 3 refine pE rfl ?_
    apply splitJ; (case hj => rfl); (case hl => rfl)
    ·
     iterate 2 refine skipT rfl rfl rfl rfl ?_
     iterate 2 refine pE rfl ?_
     iterate 2 refine skipT rfl rfl rfl rfl ?_
     refine pE rfl ?_
     refine WO.nil ?_
     refine qv1 rfl rfl rfl
    ·
     refine goG rfl rfl ?_
     refine pE rfl ?_
     refine goG rfl rfl ?_
     iterate 3 refine pE rfl ?_
     apply splitJ; (case hj => rfl); (case hl => rfl)
     ·
      iterate 2 refine skipT rfl rfl rfl rfl ?_
      refine pE rfl ?_
      refine WO.nil ?_
      refine qv1 rfl rfl rfl
     ·
      refine goG rfl rfl ?_
      refine pE rfl ?_
      refine goG rfl rfl ?_
      iterate 2 refine pE rfl ?_
      refine WO.nil ?_
      refine qv1 rfl rfl rfl
   refine qs ?_
   refine condK rfl (fun h32 => ?_) (fun h32 => ?_)
   ·
    refine W.seq (W.region ?_)
    refine pE rfl ?_
    refine WO.nil (qs (W.ret (qbRet (qsRet (qlRet (qbRet (qsRet ?_)))))))
    refine QF.ret0 trivial rfl ?_
    simp only [norm, oneA, constErr, ← hI]; clear hI; simp only [badChar]; grind
   ·
    refine W.skip (qbN (qs (W.region ?_)))
    iterate 2 refine pE rfl ?_
    refine WO.nil ?_
    refine W.endR [0] ⟨k + 1, ?_⟩ ?_ rfl ?_ ⟨rfl, rfl, trivial⟩ ?_ ⟨rfl, rfl, trivial⟩ rfl
    · exact ⟨hlt, by rw [← hI]; simp only [badChar]; grind⟩
    · dsimp only; omega
    · repeat' first | exact trivial | refine ⟨rfl, ?_⟩ | refine ⟨step_nat (by assumption) (by assumption), ?_⟩
    · repeat' first | exact trivial | refine ⟨rfl, ?_⟩ | refine ⟨step_nat (by assumption) (by assumption), ?_⟩
  ·
   rw [hd] at hI
   refine W.exit (qsExit (qlExit (qbExit (qs (W.seq (W.region ?_))))))
   refine pE rfl ?_
   refine WO.nil (qs (W.ret ?_))
   refine QF.ret0 trivial rfl ?_
   simp only [norm, oneA, constErr, ← hI]; simp_all
theorem rconstant_fn (v : Val) : Does Tryz.prog 118 [.ag v.c] (.d (.v (.int .i64 (constErr v)))) 0 := by
 refine Does.of_W (n := 38) (ts := [2]) Tryz.func118 (by kernel_rfl) rfl Tryz.ntmps118 Tryz.results118 rfl rfl fun C hC hG => ?_
 refine W.seq (W.region ?_)
 refine boxR rfl rfl rfl ?_
 refine pE rfl ?_
 refine WO.nil (qs (W.seq (W.region ?_)))
 refine pE rfl ?_
 first | refine pE rfl ?_ | refine pR rfl rfl rfl rfl rfl ?_ | refine pB rfl rfl rfl rfl rfl rfl ?_
 first | refine pE rfl ?_ | refine pR rfl rfl rfl rfl rfl ?_ | refine pB rfl rfl rfl rfl rfl rfl ?_
 refine pu (puCall rfl rfl rfl (rvalue_fn ..) rfl) rfl ?_
 refine pE rfl ?_
 refine WO.nil (qs ?_)
 iterate 2 refine W.seq ?_
 refine W.region ?_
 iterate 2 refine pE rfl ?_
 refine WO.nil (qs ?_)
 refine condK rfl (fun h10 => ?_) (fun h10 => ?_)
 ·
  refine W.seq (W.region ?_)
  iterate 2 refine pE rfl ?_
  refine WO.nil (qs (W.ret (qsRet ?_)))
  refine QF.ret0 trivial rfl ?_
  simp only [norm, oneA]; grind [constErr]
 ·
  refine W.skip (qs ?_)
  iterate 2 refine W.seq ?_
  refine W.region ?_
  refine pE rfl ?_
  refine WO.nil (qs (W.block ?_))
  refine inBox (g := 0) (j := 2) rfl rfl (fun hok => ?_)
  have hlen := okc_size hok
  refine W.loopR (ι := {x : Nat // match x with | k => k ≤ (bys v.s).length ∧ ((bys v.s).drop k).any badChar = (bys v.s).any badChar})
   (fun x => match x.1 with | k => [(1, .ptr 0 0), (4, .d (.v (.int .i64 ((k : Nat) : Int))))]) []
   (fun x => match x.1 with | k => []) [(0, _)] [] 1 (fun x => match x.1 with | k => (bys v.s).length - k)
   [0] ⟨0, ?_⟩ rfl ?_ trivial ?_ ⟨rfl, rfl, trivial⟩ rfl ?_
  · first | exact ⟨Nat.zero_le _, rfl⟩ | exact trivial | simp
  · repeat' first | exact trivial | refine ⟨rfl, ?_⟩ | refine ⟨step_nat (by assumption) (by assumption), ?_⟩
  · repeat' first | exact trivial | refine ⟨rfl, ?_⟩ | refine ⟨step_nat (by assumption) (by assumption), ?_⟩
  rintro ⟨k, hk, hI⟩
  show W _ _ _ _ _ ⟨[(1, .ptr 0 0), (4, .d (.v (.int .i64 ((k : Nat) : Int))))], [(0, _)], [], 1⟩
  iterate 2 refine W.seq ?_
  refine W.region ?_
  iterate 2 refine pE rfl ?_
  first | refine pE rfl ?_ | refine pR rfl rfl rfl rfl rfl ?_ | refine pB rfl rfl rfl rfl rfl rfl ?_
  iterate 2 refine pE rfl ?_
  refine WO.nil (qs ?_)
  refine eachR (l := bys v.s) (k := k) rfl (by simp [Ex.kc_len, bytes_len]) hk (fun b hx hd hlt => ?_) (fun he hd => ?_)
  ·
   rw [hd, List.any_cons] at hI
   refine W.skip (qs (W.seq (W.block (W.seq ?_))))
   apply regionB; (case hb => rfl)
   ·
    refine pE rfl ?_
    first | refine pE rfl ?_ | refine pR rfl rfl rfl rfl rfl ?_ | refine pB rfl rfl rfl rfl rfl rfl ?_
    refine pE rfl ?_
    refine pu (indexStr tab rfl rfl rfl rfl (Int.natCast_nonneg _) (byteList (by assumption))) rfl ?_
    iterate 2 refine pE rfl ?_
    apply splitJ; (case hj => rfl); (case hl => rfl)
    ·
     iterate 5 refine skipT rfl rfl rfl rfl ?_
     iterate 2 refine pE rfl ?_
     iterate 5 refine skipT rfl rfl rfl rfl ?_
     refine pE rfl ?_
     refine WO.nil ?_
     refine qv1 rfl rfl rfl
    ·
     refine goG rfl rfl ?_
     refine pE rfl ?_
     refine goG rfl rfl ?_
     first | refine pE rfl ?_ | refine pR rfl rfl rfl rfl rfl ?_ | refine pB rfl rfl rfl rfl rfl rfl ?_
     refine goG rfl rfl ?_
     refine pE rfl ?_
     refine goG rfl rfl ?_
     refine pu (indexStr tab rfl rfl rfl rfl (Int.natCast_nonneg _) (byteList (by assumption))) rfl ?_
     refine goG rfl rfl ?_
     iterate 3 refine pE rfl ?_
     apply splitJ; (case hj => rfl); (case hl => rfl)
     ·
      iterate 5 refine skipT rfl rfl rfl rfl ?_
      refine pE rfl ?_
      refine WO.nil ?_
      refine qv1 rfl rfl rfl
     ·
      refine goG rfl rfl ?_
      refine pE rfl ?_
      refine goG rfl rfl ?_
      first | refine pE rfl ?_ | refine pR rfl rfl rfl rfl rfl ?_ | refine pB rfl rfl rfl rfl rfl rfl ?_
      refine goG rfl rfl ?_
      refine pE rfl ?_
      refine goG rfl rfl ?_
      refine pu (indexStr tab rfl rfl rfl rfl (Int.natCast_nonneg _) (byteList (by assumption))) rfl ?_
      refine goG rfl rfl ?_
      iterate 2 refine pE rfl ?_
      refine WO.nil ?_
      refine qv1 rfl rfl rfl
   refine qs ?_
   refine condK rfl (fun h37 => ?_) (fun h37 => ?_)
   ·
    refine W.seq (W.region ?_)
    refine pE rfl ?_
    refine WO.nil (qs (W.ret (qbRet (qsRet (qlRet (qbRet (qsRet ?_)))))))
    refine QF.ret0 trivial rfl ?_
    simp only [norm, oneA, constErr, ← hI]; clear hI; simp only [badChar]; grind
   ·
    refine W.skip (qbN (qs (W.region ?_)))
    iterate 3 refine pE rfl ?_
    refine WO.nil ?_
    refine W.endR [0] ⟨k + 1, ?_⟩ ?_ rfl ?_ trivial ?_ ⟨rfl, rfl, trivial⟩ rfl
    · exact ⟨hlt, by rw [← hI]; simp only [badChar]; grind⟩
    · dsimp only; omega
    · repeat' first | exact trivial | refine ⟨rfl, ?_⟩ | refine ⟨step_nat (by assumption) (by assumption), ?_⟩
    · repeat' first | exact trivial | refine ⟨rfl, ?_⟩ | refine ⟨step_nat (by assumption) (by assumption), ?_⟩
  ·
   rw [hd] at hI
   refine W.exit (qsExit (qlExit (qbExit (qs (W.seq (W.region ?_))))))
   refine pE rfl ?_
   refine WO.nil (qs (W.ret ?_))
   refine QF.ret0 trivial rfl ?_
   simp only [norm, oneA, constErr, ← hI]; simp_all
end Go.Proofs.YtifeonoehfffmaaGreatDoor
namespace Go.Proofs.YtifeonoehfffmaaGreatDoor
open Go.Ab Go.Tb
set_option maxRecDepth 10000
attribute [local irreducible] W WO Pu QS QB QL QF QV QV1 CH QE
theorem measure_fn : ∀ (e : Ex) (n : Int), 0 ≤ n → n ≤ 200 → Does Tryz.prog 76 [.ag e.c, .d (.v (.int .i64 n))] (.tup [.d (.v (.int .i64 (msr e n).1)), .d (.v (.int .i64 (msr e n).2))]) 0 := by
 refine Ex.ind fun e ih => ?_
 intro n h0 h1
 refine Does.of_W (n := 34) (ts := [4, 5]) Tryz.func76 (by kernel_rfl) rfl Tryz.ntmps76 Tryz.results76 rfl rfl fun C hC hG => ?_
 refine W.seq (W.region ?_)
 refine boxR rfl rfl rfl ?_
 iterate 2 refine pE rfl ?_
 refine WO.nil (qs (W.seq (W.region ?_)))
 refine pE rfl ?_
 refine pu (puI (ev tab rfl) (wrap64 (by omega))) rfl ?_
 refine pE rfl ?_
 refine WO.nil (qs (W.seq (W.region ?_)))
 refine pE rfl ?_
 refine WO.nil (qs ?_)
 iterate 2 refine W.seq ?_
 refine W.region ?_
 refine pE rfl ?_
 first | refine pE rfl ?_ | refine pR rfl rfl rfl rfl rfl ?_ | refine pB rfl rfl rfl rfl rfl rfl ?_
 iterate 2 refine pE rfl ?_
 refine WO.nil (qs (W.block ?_))
 refine W.len (t := 13) rfl rfl (fun hlen => ?_)
 try simp only [List.length_map, Ex.kc_len] at hlen
 refine W.loopR (ι := {x : Nat × Int × Int // match x with | (k, n', d) => k ≤ e.kids.length ∧ msrL (e.kids.drop k) n' d = msrL e.kids (n + 1) 0 ∧ 0 ≤ n' ∧ n' ≤ 201 ∧ 0 ≤ d ∧ d ≤ n'})
  (fun x => match x.1 with | (k, n', d) => [(1, .d (.v (.int .i64 (n')))), (6, .d (.v (.int .i64 (d)))), (15, .d (.v (.int .i64 ((k : Nat) : Int))))]) [(13, _), (14, _)]
  (fun x => match x.1 with | (k, n', d) => []) [] [] 0 (fun x => match x.1 with | (k, n', d) => e.kids.length - k)
  [] ⟨(0, n + 1, 0), ?_⟩ rfl ?_ ⟨rfl, rfl, rfl, rfl, trivial⟩ ?_ trivial rfl ?_
 · exact ⟨Nat.zero_le _, rfl, by omega, by omega, by omega, by omega⟩
 · repeat' first | exact trivial | refine ⟨rfl, ?_⟩ | refine ⟨step_nat (by assumption) (by assumption), ?_⟩
 · repeat' first | exact trivial | refine ⟨rfl, ?_⟩ | refine ⟨step_nat (by assumption) (by assumption), ?_⟩
 rintro ⟨⟨k, n', d⟩, hk, hI, h2, h3, h4, h5⟩
 show W _ _ _ _ _ ⟨[(1, .d (.v (.int .i64 (n')))), (6, .d (.v (.int .i64 (d)))), (15, .d (.v (.int .i64 ((k : Nat) : Int)))), (13, _), (14, _)], [], [], 0⟩
 refine W.seq (W.region ?_)
 refine pE rfl ?_
 refine WO.nil (qs (W.seq ?_))
 refine eachR (l := e.kids) (k := k) rfl (by simp [Ex.kc_len, bytes_len]) hk (fun x hx hd hlt => ?_) (fun he hd => ?_)
 ·
  rw [hd] at hI
  refine W.skip (qs (W.seq (W.block (W.seq (W.region ?_)))))
  refine pu (indexAddr tab rfl rfl rfl rfl rfl rfl (Int.natCast_nonneg _) (Ex.kc_idx hx) rfl) rfl ?_
  first | refine pE rfl ?_ | refine pR rfl rfl rfl rfl rfl ?_ | refine pB rfl rfl rfl rfl rfl rfl ?_
  refine allocR tab rfl rfl rfl ?_
  refine storeR tab rfl rfl rfl rfl rfl rfl rfl rfl ?_
  refine WO.nil (qs ?_)
  iterate 2 refine W.seq ?_
  refine W.region ?_
  iterate 2 refine pE rfl ?_
  refine WO.nil (qs ?_)
  refine condK rfl (fun h20 => ?_) (fun h20 => ?_)
  ·
   have h20 : 200 < n' := by simpa using h20
   simp only [msrL, h20, if_true] at hI
   refine W.exit (qsExit ?_)
   refine qbExit' rfl ?_
   refine qsExit (qlExit (qbExit (qs (W.seq (W.region ?_)))))
   iterate 2 refine pE rfl ?_
   refine pu (puI (ev tab rfl) (wrap64 (by omega))) rfl ?_
   iterate 2 refine pE rfl ?_
   refine WO.nil (qs (W.ret ?_))
   refine QF.ret0 trivial rfl ?_
   rw [msr_eq, ← hI]; rfl
  ·
   have h20 : ¬ 200 < n' := by simpa using h20
   simp only [msrL, h20, if_false] at hI
   have hm := msr_spec x n' h2 (by omega)
   refine W.skip (qs (W.seq (W.region ?_)))
   refine pE rfl ?_
   refine WO.nil (qs (W.seq (W.region ?_)))
   first | refine pE rfl ?_ | refine pR rfl rfl rfl rfl rfl ?_ | refine pB rfl rfl rfl rfl rfl rfl ?_
   refine pE rfl ?_
   refine pu (puCall rfl rfl rfl (ih x (List.mem_of_getElem? hx) _ h2 (by omega)) rfl) rfl ?_
   iterate 5 refine pE rfl ?_
   refine WO.nil (qs (W.region ?_))
   iterate 4 refine pE rfl ?_
   refine WO.nil (qbN (qs (W.region ?_)))
   iterate 2 refine pE rfl ?_
   refine WO.nil ?_
   refine W.endR [] ⟨(k + 1, (msr x n').1, if d < (msr x n').2 then (msr x n').2 else d), ?_⟩ ?_ rfl ?_ ⟨rfl, rfl, rfl, rfl, trivial⟩ ?_ trivial rfl
   · refine ⟨hlt, hI, by omega, by omega, ?_, ?_⟩ <;> split <;> omega
   · dsimp only; omega
   · repeat' first | exact trivial | refine ⟨rfl, ?_⟩ | refine ⟨step_nat (by assumption) (by assumption), ?_⟩
   · repeat' first | exact trivial | refine ⟨rfl, ?_⟩ | refine ⟨step_nat (by assumption) (by assumption), ?_⟩
 ·
  rw [hd] at hI
  refine W.exit (qsExit (qlExit (qbExit (qs (W.seq (W.region ?_))))))
  iterate 2 refine pE rfl ?_
  refine pu (puI (ev tab rfl) (wrap64 (by omega))) rfl ?_
  iterate 2 refine pE rfl ?_
  refine WO.nil (qs (W.ret ?_))
  refine QF.ret0 trivial rfl ?_
  rw [msr_eq, ← hI]; rfl
theorem count_fn : ∀ (e : Ex) (m : Int), 0 ≤ m → m ≤ 200 → Does Tryz.prog 18 [.ag e.c, .d (.v (.int .i64 m))] (.d (.v (.int .i64 (count e m)))) 0 := by
 refine Ex.ind fun e ih => ?_
 intro m h0 h1
 refine Does.of_W (n := 31) (ts := [4]) Tryz.func18 (by kernel_rfl) rfl Tryz.ntmps18 Tryz.results18 rfl rfl fun C hC hG => ?_
 refine W.seq (W.region ?_)
 refine boxR rfl rfl rfl ?_
 refine pE rfl ?_
 refine WO.nil (qs (W.seq (W.region ?_)))
 refine pE rfl ?_
 refine WO.nil (qs ?_)
 iterate 2 refine W.seq ?_
 refine W.region ?_
 refine pE rfl ?_
 refine WO.nil (qs (W.block ?_))
 refine lenBox (g := 0) (j := 5) rfl rfl (fun hlen => ?_)
 rw [Ex.kc_len] at hlen
 refine W.loopR (ι := {x : Nat × Int // match x with | (k, n') => k ≤ e.kids.length ∧ countL (e.kids.drop k) m n' = countL e.kids m 1 ∧ 0 ≤ n' ∧ n' ≤ m + 1})
  (fun x => match x.1 with | (k, n') => [(2, .ptr 0 0), (5, .d (.v (.int .i64 (n')))), (6, .d (.v (.int .i64 ((k : Nat) : Int))))]) [(1, _)]
  (fun x => match x.1 with | (k, n') => []) [(0, _)] [] 1 (fun x => match x.1 with | (k, n') => e.kids.length - k)
  [0] ⟨(0, 1), ?_⟩ rfl ?_ ⟨rfl, rfl, trivial⟩ ?_ ⟨rfl, rfl, trivial⟩ rfl ?_
 · exact ⟨Nat.zero_le _, rfl, by omega, by omega⟩
 · repeat' first | exact trivial | refine ⟨rfl, ?_⟩ | refine ⟨step_nat (by assumption) (by assumption), ?_⟩
 · repeat' first | exact trivial | refine ⟨rfl, ?_⟩ | refine ⟨step_nat (by assumption) (by assumption), ?_⟩
 rintro ⟨⟨k, n'⟩, hk, hI, h2, h3⟩
 show W _ _ _ _ _ ⟨[(2, .ptr 0 0), (5, .d (.v (.int .i64 (n')))), (6, .d (.v (.int .i64 ((k : Nat) : Int)))), (1, _)], [(0, _)], [], 1⟩
 iterate 2 refine W.seq ?_
 apply regionB; (case hb => rfl)
 ·
  iterate 2 refine pE rfl ?_
  first | refine pE rfl ?_ | refine pR rfl rfl rfl rfl rfl ?_ | refine pB rfl rfl rfl rfl rfl rfl ?_
  iterate 3 refine pE rfl ?_
  apply splitJ; (case hj => rfl); (case hl => rfl)
  ·
   refine goG rfl rfl ?_
   refine pE rfl ?_
   refine goG rfl rfl ?_
   refine pE rfl ?_
   refine goG rfl rfl ?_
   iterate 2 refine pE rfl ?_
   refine WO.nil ?_
   refine qv1 rfl rfl rfl
  ·
   iterate 3 refine skipT rfl rfl rfl rfl ?_
   refine pE rfl ?_
   refine WO.nil ?_
   refine qv1 rfl rfl rfl
 refine qs ?_
 refine condK rfl (fun h16 => ?_) (fun h16 => ?_)
 ·
  have h16 : k < e.kids.length ∧ n' ≤ m := by simpa [Ex.kc_len] using h16
  have hlt := h16.1
  obtain ⟨x, hx, hd⟩ := exAt hlt
  rw [hd] at hI
  simp only [countL, h16.2, if_true] at hI
  have hm := count_spec x (m - n') (by omega)
  refine W.skip (qs (W.seq (W.block (W.region ?_))))
  iterate 2 refine pE rfl ?_
  first | refine pE rfl ?_ | refine pR rfl rfl rfl rfl rfl ?_ | refine pB rfl rfl rfl rfl rfl rfl ?_
  refine pE rfl ?_
  refine pu (indexAddr tab rfl rfl rfl rfl rfl rfl (Int.natCast_nonneg _) (Ex.kc_idx hx) rfl) rfl ?_
  first | refine pE rfl ?_ | refine pR rfl rfl rfl rfl rfl ?_ | refine pB rfl rfl rfl rfl rfl rfl ?_
  iterate 2 refine pE rfl ?_
  refine pu (puI (ev tab rfl) (wrap64 (by omega))) rfl ?_
  refine pu (puCall rfl rfl rfl (ih x (List.mem_of_getElem? hx) _ (by omega) (by omega)) rfl) rfl ?_
  refine pu (puI (ev tab rfl) (wrap64 (by omega))) rfl ?_
  refine pE rfl ?_
  refine WO.nil (qbN (qs (W.region ?_)))
  iterate 3 refine pE rfl ?_
  refine WO.nil ?_
  refine W.endR [0] ⟨(k + 1, n' + count x (m - n')), ?_⟩ ?_ rfl ?_ ⟨rfl, rfl, trivial⟩ ?_ ⟨rfl, rfl, trivial⟩ rfl
  · exact ⟨hlt, hI, by omega, by omega⟩
  · dsimp only; omega
  · repeat' first | exact trivial | refine ⟨rfl, ?_⟩ | refine ⟨step_nat (by assumption) (by assumption), ?_⟩
  · repeat' first | exact trivial | refine ⟨rfl, ?_⟩ | refine ⟨step_nat (by assumption) (by assumption), ?_⟩
 ·
  have h16 : k < e.kids.length → m < n' := by simpa [Ex.kc_len] using h16
  have hfin : n' = countL e.kids m 1 := by
   rw [← hI]
   rcases Nat.lt_or_ge k e.kids.length with h | h
   ·
    obtain ⟨x, hx, hd⟩ := exAt h
    rw [hd]; simp only [countL, if_neg (show ¬ n' ≤ m by have := h16 h; omega)]
   · rw [dropEnd h]; rfl
  refine W.exit (qsExit (qlExit (qbExit (qs (W.seq (W.region ?_))))))
  iterate 2 refine pE rfl ?_
  refine WO.nil (qs (W.ret ?_))
  refine QF.ret0 trivial rfl ?_
  rw [count_eq, ← hfin]; rfl
theorem levels_fn : ∀ (e : Ex), cnt e ≤ 200 → Does Tryz.prog 44 [.ag e.c] (.d (.v (.int .i64 (lev e)))) 0 := by
 refine Ex.ind fun e ih => ?_
 intro h0
 have hc := cnt_eq e
 refine Does.of_W (n := 22) (ts := [2]) Tryz.func44 (by kernel_rfl) rfl Tryz.ntmps44 Tryz.results44 rfl rfl fun C hC hG => ?_
 refine W.seq (W.region ?_)
 refine boxR rfl rfl rfl ?_
 refine pE rfl ?_
 refine WO.nil (qs (W.seq (W.region ?_)))
 refine pE rfl ?_
 refine WO.nil (qs ?_)
 iterate 2 refine W.seq ?_
 refine W.region ?_
 refine pE rfl ?_
 refine WO.nil (qs (W.block ?_))
 refine lenBox (g := 0) (j := 5) rfl rfl (fun hlen => ?_)
 rw [Ex.kc_len] at hlen
 refine W.loopR (ι := {x : Nat × Int // match x with | (k, d) => k ≤ e.kids.length ∧ levL (e.kids.drop k) d = levL e.kids 0 ∧ 0 ≤ d ∧ cntL (e.kids.drop k) ≤ cntL e.kids ∧ d ≤ 200})
  (fun x => match x.1 with | (k, d) => [(1, .ptr 0 0), (3, .d (.v (.int .i64 (d)))), (4, .d (.v (.int .i64 ((k : Nat) : Int))))]) []
  (fun x => match x.1 with | (k, d) => []) [(0, _)] [] 1 (fun x => match x.1 with | (k, d) => e.kids.length - k)
  [0] ⟨(0, 0), ?_⟩ rfl ?_ trivial ?_ ⟨rfl, rfl, trivial⟩ rfl ?_
 · exact ⟨Nat.zero_le _, rfl, by omega, by simp, by omega⟩
 · repeat' first | exact trivial | refine ⟨rfl, ?_⟩ | refine ⟨step_nat (by assumption) (by assumption), ?_⟩
 · repeat' first | exact trivial | refine ⟨rfl, ?_⟩ | refine ⟨step_nat (by assumption) (by assumption), ?_⟩
 rintro ⟨⟨k, d⟩, hk, hI, h2, h3, h4⟩
 show W _ _ _ _ _ ⟨[(1, .ptr 0 0), (3, .d (.v (.int .i64 (d)))), (4, .d (.v (.int .i64 ((k : Nat) : Int))))], [(0, _)], [], 1⟩
 iterate 2 refine W.seq ?_
 refine W.region ?_
 iterate 2 refine pE rfl ?_
 first | refine pE rfl ?_ | refine pR rfl rfl rfl rfl rfl ?_ | refine pB rfl rfl rfl rfl rfl rfl ?_
 iterate 2 refine pE rfl ?_
 refine WO.nil (qs ?_)
 refine eachR (l := e.kids) (k := k) rfl (by simp [Ex.kc_len, bytes_len]) hk (fun x hx hd hlt => ?_) (fun he hd => ?_)
 ·
  rw [hd] at hI h3
  simp only [levL, cntL] at hI h3
  have hx1 := lev_le x
  have hx2 := cntL_pos (e.kids.drop (k + 1))
  have hx3 := cnt_pos x
  refine W.skip (qs (W.seq (W.block (W.region ?_))))
  iterate 2 refine pE rfl ?_
  first | refine pE rfl ?_ | refine pR rfl rfl rfl rfl rfl ?_ | refine pB rfl rfl rfl rfl rfl rfl ?_
  refine pE rfl ?_
  refine pu (indexAddr tab rfl rfl rfl rfl rfl rfl (Int.natCast_nonneg _) (Ex.kc_idx hx) rfl) rfl ?_
  first | refine pE rfl ?_ | refine pR rfl rfl rfl rfl rfl ?_ | refine pB rfl rfl rfl rfl rfl rfl ?_
  refine pu (puCall rfl rfl rfl (ih x (List.mem_of_getElem? hx) (by omega)) rfl) rfl ?_
  iterate 2 refine pE rfl ?_
  refine WO.nil (qbN (qs (W.region ?_)))
  iterate 3 refine pE rfl ?_
  refine WO.nil ?_
  refine W.endR [0] ⟨(k + 1, if d < lev x then lev x else d), ?_⟩ ?_ rfl ?_ trivial ?_ ⟨rfl, rfl, trivial⟩ rfl
  · refine ⟨hlt, hI, ?_, by omega, ?_⟩ <;> split <;> omega
  · dsimp only; omega
  · repeat' first | exact trivial | refine ⟨rfl, ?_⟩ | refine ⟨step_nat (by assumption) (by assumption), ?_⟩
  · repeat' first | exact trivial | refine ⟨rfl, ?_⟩ | refine ⟨step_nat (by assumption) (by assumption), ?_⟩
 ·
  rw [hd] at hI
  simp only [levL] at hI
  refine W.exit (qsExit (qlExit (qbExit (qs (W.seq (W.region ?_))))))
  refine pE rfl ?_
  refine pu (puI (ev tab rfl) (wrap64 (by omega))) rfl ?_
  refine pE rfl ?_
  refine WO.nil (qs (W.ret ?_))
  refine QF.ret0 trivial rfl ?_
  rw [lev_eq, ← hI]; rfl
end Go.Proofs.YtifeonoehfffmaaGreatDoor
namespace Go.Proofs.YtifeonoehfffmaaGreatDoor
open Go.Ab Go.Tb
set_option maxRecDepth 10000
attribute [local irreducible] W WO Pu QS QB QL QF QV QV1 CH QE
theorem called_fn (e : Ex) : Does Tryz.prog 119 [.ag e.c] (.d (.v (.int .i64 (if identB e.name = false then 3 else if arity e.name = 0 then 5 else if (e.kids.length : Int) ≠ arity e.name then 1 else 0)))) 0 := by
 refine Does.of_W (n := 41) (ts := [2]) Tryz.func119 (by kernel_rfl) rfl Tryz.ntmps119 Tryz.results119 rfl rfl fun C hC hG => ?_
 have hkl := Ex.kc_len e
 refine W.seq (W.region ?_)
 refine boxR rfl rfl rfl ?_
 refine pE rfl ?_
 refine WO.nil (qs ?_)
 iterate 2 refine W.seq ?_
 refine W.region ?_
 refine pE rfl ?_
 first | refine pE rfl ?_ | refine pR rfl rfl rfl rfl rfl ?_ | refine pB rfl rfl rfl rfl rfl rfl ?_
 refine pu (puCall rfl rfl rfl (ident_fn ..) rfl) rfl ?_
 refine pE rfl ?_
 refine WO.nil (qs ?_)
 refine condK rfl (fun h7 => ?_) (fun h7 => ?_)
 ·
  refine W.seq (W.region ?_)
  refine pE rfl ?_
  refine WO.nil (qs (W.ret (qsRet ?_)))
  refine QF.ret0 trivial rfl ?_
  simp only [norm, oneA, arity, wMin, wMax, wHas, wStarts, wAbs, wLen] at *; grind
 ·
  refine W.skip (qs (W.seq (W.region ?_)))
  refine pE rfl ?_
  refine WO.nil (qs ?_)
  iterate 2 refine W.seq ?_
  apply regionB; (case hb => rfl)
  ·
   refine pE rfl ?_
   first | refine pE rfl ?_ | refine pR rfl rfl rfl rfl rfl ?_ | refine pB rfl rfl rfl rfl rfl rfl ?_
   iterate 2 refine pE rfl ?_
   apply splitJ; (case hj => rfl); (case hl => rfl)
   ·
    iterate 3 refine skipT rfl rfl rfl rfl ?_
    iterate 2 refine pE rfl ?_
    iterate 3 refine skipT rfl rfl rfl rfl ?_
    iterate 2 refine pE rfl ?_
    iterate 3 refine skipT rfl rfl rfl rfl ?_
    refine pE rfl ?_
    refine WO.nil ?_
    refine qv1 rfl rfl rfl
   ·
    refine goG rfl rfl ?_
    refine pE rfl ?_
    refine goG rfl rfl ?_
    first | refine pE rfl ?_ | refine pR rfl rfl rfl rfl rfl ?_ | refine pB rfl rfl rfl rfl rfl rfl ?_
    refine goG rfl rfl ?_
    iterate 3 refine pE rfl ?_
    apply splitJ; (case hj => rfl); (case hl => rfl)
    ·
     iterate 3 refine skipT rfl rfl rfl rfl ?_
     iterate 2 refine pE rfl ?_
     iterate 3 refine skipT rfl rfl rfl rfl ?_
     refine pE rfl ?_
     refine WO.nil ?_
     refine qv1 rfl rfl rfl
    ·
     refine goG rfl rfl ?_
     refine pE rfl ?_
     refine goG rfl rfl ?_
     first | refine pE rfl ?_ | refine pR rfl rfl rfl rfl rfl ?_ | refine pB rfl rfl rfl rfl rfl rfl ?_
     refine goG rfl rfl ?_
     iterate 3 refine pE rfl ?_
     apply splitJ; (case hj => rfl); (case hl => rfl)
     ·
      iterate 3 refine skipT rfl rfl rfl rfl ?_
      refine pE rfl ?_
      refine WO.nil ?_
      refine qv1 rfl rfl rfl
     ·
      refine goG rfl rfl ?_
      refine pE rfl ?_
      refine goG rfl rfl ?_
      first | refine pE rfl ?_ | refine pR rfl rfl rfl rfl rfl ?_ | refine pB rfl rfl rfl rfl rfl rfl ?_
      refine goG rfl rfl ?_
      iterate 2 refine pE rfl ?_
      refine WO.nil ?_
      refine qv1 rfl rfl rfl
  refine qs ?_
  refine condK rfl (fun h25 => ?_) (fun h25 => ?_)
  ·
   refine W.region ?_
   refine pE rfl ?_
   refine WO.nil (qs ?_)
   iterate 2 refine W.seq ?_
   apply regionB; (case hb => rfl)
   ·
    refine pE rfl ?_
    first | refine pE rfl ?_ | refine pR rfl rfl rfl rfl rfl ?_ | refine pB rfl rfl rfl rfl rfl rfl ?_
    iterate 2 refine pE rfl ?_
    apply splitJ; (case hj => rfl); (case hl => rfl)
    ·
     iterate 3 refine skipT rfl rfl rfl rfl ?_
     refine pE rfl ?_
     refine WO.nil ?_
     refine qv1 rfl rfl rfl
    ·
     refine goG rfl rfl ?_
     refine pE rfl ?_
     refine goG rfl rfl ?_
     first | refine pE rfl ?_ | refine pR rfl rfl rfl rfl rfl ?_ | refine pB rfl rfl rfl rfl rfl rfl ?_
     refine goG rfl rfl ?_
     iterate 2 refine pE rfl ?_
     refine WO.nil ?_
     refine qv1 rfl rfl rfl
   refine qs ?_
   refine condK rfl (fun h33 => ?_) (fun h33 => ?_)
   ·
    refine W.region ?_
    refine pE rfl ?_
    refine WO.nil (qs ?_)
    iterate 2 refine W.seq ?_
    refine W.region ?_
    iterate 2 refine pE rfl ?_
    refine WO.nil (qs ?_)
    refine condK rfl (fun h35 => ?_) (fun h35 => ?_)
    ·
     refine W.seq (W.region ?_)
     refine pE rfl ?_
     refine WO.nil (qs (W.ret (qsRet ?_)))
     refine QF.ret0 trivial rfl ?_
     simp only [norm, oneA, arity, wMin, wMax, wHas, wStarts, wAbs, wLen] at *; grind
    ·
     refine W.skip (qs ?_)
     iterate 2 refine W.seq ?_
     refine W.region ?_
     refine pE rfl ?_
     first | refine pE rfl ?_ | refine pR rfl rfl rfl rfl rfl ?_ | refine pB rfl rfl rfl rfl rfl rfl ?_
     iterate 3 refine pE rfl ?_
     refine WO.nil (qs ?_)
     refine condK rfl (fun h40 => ?_) (fun h40 => ?_)
     ·
      refine W.seq (W.region ?_)
      refine pE rfl ?_
      refine WO.nil (qs (W.ret (qsRet ?_)))
      refine QF.ret0 trivial rfl ?_
      simp only [norm, oneA, arity, wMin, wMax, wHas, wStarts, wAbs, wLen] at *; grind
     ·
      refine W.skip (qs (W.seq (W.region ?_)))
      refine pE rfl ?_
      refine WO.nil (qs (W.ret ?_))
      refine QF.ret0 trivial rfl ?_
      simp only [norm, oneA, arity, wMin, wMax, wHas, wStarts, wAbs, wLen] at *; grind
   ·
    refine W.skip (qs ?_)
    iterate 2 refine W.seq ?_
    refine W.region ?_
    iterate 2 refine pE rfl ?_
    refine WO.nil (qs ?_)
    refine condK rfl (fun h35 => ?_) (fun h35 => ?_)
    ·
     refine W.seq (W.region ?_)
     refine pE rfl ?_
     refine WO.nil (qs (W.ret (qsRet ?_)))
     refine QF.ret0 trivial rfl ?_
     simp only [norm, oneA, arity, wMin, wMax, wHas, wStarts, wAbs, wLen] at *; grind
    ·
     refine W.skip (qs ?_)
     iterate 2 refine W.seq ?_
     refine W.region ?_
     refine pE rfl ?_
     first | refine pE rfl ?_ | refine pR rfl rfl rfl rfl rfl ?_ | refine pB rfl rfl rfl rfl rfl rfl ?_
     iterate 3 refine pE rfl ?_
     refine WO.nil (qs ?_)
     refine condK rfl (fun h40 => ?_) (fun h40 => ?_)
     ·
      refine W.seq (W.region ?_)
      refine pE rfl ?_
      refine WO.nil (qs (W.ret (qsRet ?_)))
      refine QF.ret0 trivial rfl ?_
      simp only [norm, oneA, arity, wMin, wMax, wHas, wStarts, wAbs, wLen] at *; grind
     ·
      refine W.skip (qs (W.seq (W.region ?_)))
      refine pE rfl ?_
      refine WO.nil (qs (W.ret ?_))
      refine QF.ret0 trivial rfl ?_
      simp only [norm, oneA, arity, wMin, wMax, wHas, wStarts, wAbs, wLen] at *; grind
  ·
   refine W.skip (qs ?_)
   iterate 2 refine W.seq ?_
   apply regionB; (case hb => rfl)
   ·
    refine pE rfl ?_
    first | refine pE rfl ?_ | refine pR rfl rfl rfl rfl rfl ?_ | refine pB rfl rfl rfl rfl rfl rfl ?_
    iterate 2 refine pE rfl ?_
    apply splitJ; (case hj => rfl); (case hl => rfl)
    ·
     iterate 3 refine skipT rfl rfl rfl rfl ?_
     refine pE rfl ?_
     refine WO.nil ?_
     refine qv1 rfl rfl rfl
    ·
     refine goG rfl rfl ?_
     refine pE rfl ?_
     refine goG rfl rfl ?_
     first | refine pE rfl ?_ | refine pR rfl rfl rfl rfl rfl ?_ | refine pB rfl rfl rfl rfl rfl rfl ?_
     refine goG rfl rfl ?_
     iterate 2 refine pE rfl ?_
     refine WO.nil ?_
     refine qv1 rfl rfl rfl
   refine qs ?_
   refine condK rfl (fun h33 => ?_) (fun h33 => ?_)
   ·
    refine W.region ?_
    refine pE rfl ?_
    refine WO.nil (qs ?_)
    iterate 2 refine W.seq ?_
    refine W.region ?_
    iterate 2 refine pE rfl ?_
    refine WO.nil (qs ?_)
    refine condK rfl (fun h35 => ?_) (fun h35 => ?_)
    ·
     refine W.seq (W.region ?_)
     refine pE rfl ?_
     refine WO.nil (qs (W.ret (qsRet ?_)))
     refine QF.ret0 trivial rfl ?_
     simp only [norm, oneA, arity, wMin, wMax, wHas, wStarts, wAbs, wLen] at *; grind
    ·
     refine W.skip (qs ?_)
     iterate 2 refine W.seq ?_
     refine W.region ?_
     refine pE rfl ?_
     first | refine pE rfl ?_ | refine pR rfl rfl rfl rfl rfl ?_ | refine pB rfl rfl rfl rfl rfl rfl ?_
     iterate 3 refine pE rfl ?_
     refine WO.nil (qs ?_)
     refine condK rfl (fun h40 => ?_) (fun h40 => ?_)
     ·
      refine W.seq (W.region ?_)
      refine pE rfl ?_
      refine WO.nil (qs (W.ret (qsRet ?_)))
      refine QF.ret0 trivial rfl ?_
      simp only [norm, oneA, arity, wMin, wMax, wHas, wStarts, wAbs, wLen] at *; grind
     ·
      refine W.skip (qs (W.seq (W.region ?_)))
      refine pE rfl ?_
      refine WO.nil (qs (W.ret ?_))
      refine QF.ret0 trivial rfl ?_
      simp only [norm, oneA, arity, wMin, wMax, wHas, wStarts, wAbs, wLen] at *; grind
   ·
    refine W.skip (qs ?_)
    iterate 2 refine W.seq ?_
    refine W.region ?_
    iterate 2 refine pE rfl ?_
    refine WO.nil (qs ?_)
    refine condK rfl (fun h35 => ?_) (fun h35 => ?_)
    ·
     refine W.seq (W.region ?_)
     refine pE rfl ?_
     refine WO.nil (qs (W.ret (qsRet ?_)))
     refine QF.ret0 trivial rfl ?_
     simp only [norm, oneA, arity, wMin, wMax, wHas, wStarts, wAbs, wLen] at *; grind
    ·
     refine W.skip (qs ?_)
     iterate 2 refine W.seq ?_
     refine W.region ?_
     refine pE rfl ?_
     first | refine pE rfl ?_ | refine pR rfl rfl rfl rfl rfl ?_ | refine pB rfl rfl rfl rfl rfl rfl ?_
     iterate 3 refine pE rfl ?_
     refine WO.nil (qs ?_)
     refine condK rfl (fun h40 => ?_) (fun h40 => ?_)
     ·
      refine W.seq (W.region ?_)
      refine pE rfl ?_
      refine WO.nil (qs (W.ret (qsRet ?_)))
      refine QF.ret0 trivial rfl ?_
      simp only [norm, oneA, arity, wMin, wMax, wHas, wStarts, wAbs, wLen] at *; grind
     ·
      refine W.skip (qs (W.seq (W.region ?_)))
      refine pE rfl ?_
      refine WO.nil (qs (W.ret ?_))
      refine QF.ret0 trivial rfl ?_
      simp only [norm, oneA, arity, wMin, wMax, wHas, wStarts, wAbs, wLen] at *; grind
theorem rnode_fn (e : Ex) : Does Tryz.prog 89 [.ag e.c] (.d (.v (.int .i64 (nodeErr e)))) 0 := by
 refine Does.of_W (n := 73) (ts := [2]) Tryz.func89 (by kernel_rfl) rfl Tryz.ntmps89 Tryz.results89 rfl rfl fun C hC hG => ?_
 have hkl := Ex.kc_len e
 refine W.seq (W.region ?_)
 refine boxR rfl rfl rfl ?_
 refine pE rfl ?_
 refine WO.nil (qs ?_)
 iterate 2 refine W.seq ?_
 apply regionB; (case hb => rfl)
 ·
  refine pE rfl ?_
  first | refine pE rfl ?_ | refine pR rfl rfl rfl rfl rfl ?_ | refine pB rfl rfl rfl rfl rfl rfl ?_
  iterate 2 refine pE rfl ?_
  apply splitJ; (case hj => rfl); (case hl => rfl)
  ·
   iterate 3 refine skipT rfl rfl rfl rfl ?_
   refine pE rfl ?_
   refine WO.nil ?_
   refine qv1 rfl rfl rfl
  ·
   refine goG rfl rfl ?_
   refine pE rfl ?_
   refine goG rfl rfl ?_
   first | refine pE rfl ?_ | refine pR rfl rfl rfl rfl rfl ?_ | refine pB rfl rfl rfl rfl rfl rfl ?_
   refine goG rfl rfl ?_
   iterate 2 refine pE rfl ?_
   refine WO.nil ?_
   refine qv1 rfl rfl rfl
 refine qs ?_
 refine condK rfl (fun h11 => ?_) (fun h11 => ?_)
 ·
  refine W.seq (W.region ?_)
  refine pE rfl ?_
  refine WO.nil (qs (W.ret (qsRet ?_)))
  refine QF.ret0 trivial rfl ?_
  simp only [norm, oneA, nodeErr, zeroV] at *; generalize kidsOf e.op = q at *; grind
 ·
  refine W.skip (qs (W.seq ?_))
  apply regionB; (case hb => rfl)
  ·
   refine pE rfl ?_
   first | refine pE rfl ?_ | refine pR rfl rfl rfl rfl rfl ?_ | refine pB rfl rfl rfl rfl rfl rfl ?_
   iterate 2 refine pE rfl ?_
   apply splitJ; (case hj => rfl); (case hl => rfl)
   ·
    iterate 3 refine skipT rfl rfl rfl rfl ?_
    iterate 2 refine pE rfl ?_
    refine WO.nil ?_
    refine qv1 rfl rfl rfl
   ·
    refine goG rfl rfl ?_
    refine pE rfl ?_
    refine goG rfl rfl ?_
    first | refine pE rfl ?_ | refine pR rfl rfl rfl rfl rfl ?_ | refine pB rfl rfl rfl rfl rfl rfl ?_
    refine goG rfl rfl ?_
    iterate 3 refine pE rfl ?_
    refine WO.nil ?_
    refine qv1 rfl rfl rfl
  refine qs ?_
  iterate 2 refine W.seq ?_
  apply regionDB tab; (case hb => rfl); (case hB => kernel_rfl)
  ·
   iterate 3 refine chPu (ev tab rfl) rfl ?_
   apply chSplitJ; (case hj => rfl); (case hl => rfl)
   ·
    refine chGo rfl rfl (ev tab rfl) rfl ?_
    first | refine chGo rfl rfl (ev tab rfl) rfl ?_ | refine chGo rfl rfl (loadRow tab rfl rfl rfl rfl) rfl ?_ | refine chGo rfl rfl (loadBox tab rfl rfl rfl rfl rfl) rfl ?_
    refine chGo rfl rfl (ev tab rfl) rfl ?_
    iterate 2 refine chPu (ev tab rfl) rfl ?_
    apply chSplitJ; (case hj => rfl); (case hl => rfl)
    ·
     iterate 4 refine chSkip rfl rfl rfl rfl ?_
     iterate 4 refine chSkipU rfl rfl rfl ?_
     refine chSkip rfl rfl rfl rfl ?_
     iterate 2 refine chPu (ev tab rfl) rfl ?_
     iterate 5 refine chSkip rfl rfl rfl rfl ?_
     iterate 7 refine chSkipU rfl rfl rfl ?_
     refine chSkip rfl rfl rfl rfl ?_
     refine chPu (ev tab rfl) rfl ?_
     refine CH.nil ?_
     refine qv1 rfl rfl rfl
    ·
     refine chGo rfl rfl (ev tab rfl) rfl ?_
     first | refine chGo rfl rfl (ev tab rfl) rfl ?_ | refine chGo rfl rfl (loadRow tab rfl rfl rfl rfl) rfl ?_ | refine chGo rfl rfl (loadBox tab rfl rfl rfl rfl rfl) rfl ?_
     refine chGo rfl rfl (ev tab rfl) rfl ?_
     refine chGo rfl rfl (ev tab rfl) rfl ?_
     apply chSplitJ; (case hj => rfl); (case hl => rfl)
     ·
      refine chGo rfl rfl (ev tab rfl) rfl ?_
      first | refine chGo rfl rfl (ev tab rfl) rfl ?_ | refine chGo rfl rfl (loadRow tab rfl rfl rfl rfl) rfl ?_ | refine chGo rfl rfl (loadBox tab rfl rfl rfl rfl rfl) rfl ?_
      refine chGo rfl rfl (build tab rfl rfl rfl rfl) rfl ?_
      refine chGo rfl rfl (ev tab rfl) rfl ?_
      refine chGo rfl rfl (ev tab rfl) rfl ?_
      iterate 2 refine chPu (ev tab rfl) rfl ?_
      apply chSplitJ; (case hj => rfl); (case hl => rfl)
      ·
       iterate 5 refine chSkip rfl rfl rfl rfl ?_
       iterate 7 refine chSkipU rfl rfl rfl ?_
       refine chSkip rfl rfl rfl rfl ?_
       refine chPu (ev tab rfl) rfl ?_
       refine CH.nil ?_
       refine qv1 rfl rfl rfl
      ·
       refine chGo rfl rfl (ev tab rfl) rfl ?_
       first | refine chGo rfl rfl (ev tab rfl) rfl ?_ | refine chGo rfl rfl (loadRow tab rfl rfl rfl rfl) rfl ?_ | refine chGo rfl rfl (loadBox tab rfl rfl rfl rfl rfl) rfl ?_
       refine chGo rfl rfl (puCall rfl rfl rfl (kids_fn ..) rfl) rfl ?_
       refine chGo rfl rfl (ev tab rfl) rfl ?_
       refine chGo rfl rfl (ev tab rfl) rfl ?_
       apply chSplitJ; (case hj => rfl); (case hl => rfl)
       ·
        refine chGo rfl rfl (ev tab rfl) rfl ?_
        first | refine chGo rfl rfl (ev tab rfl) rfl ?_ | refine chGo rfl rfl (loadRow tab rfl rfl rfl rfl) rfl ?_ | refine chGo rfl rfl (loadBox tab rfl rfl rfl rfl rfl) rfl ?_
        refine chGo rfl rfl (ev tab rfl) rfl ?_
        refine chGo rfl rfl (ev tab rfl) rfl ?_
        first | refine chGo rfl rfl (ev tab rfl) rfl ?_ | refine chGo rfl rfl (loadRow tab rfl rfl rfl rfl) rfl ?_ | refine chGo rfl rfl (loadBox tab rfl rfl rfl rfl rfl) rfl ?_
        refine chGo rfl rfl (puCall rfl rfl rfl (kids_fn ..) rfl) rfl ?_
        refine chGo rfl rfl (ev tab rfl) rfl ?_
        refine chGo rfl rfl (ev tab rfl) rfl ?_
        refine chPu (ev tab rfl) rfl ?_
        refine CH.nil ?_
        refine qv1 rfl rfl rfl
       ·
        iterate 7 refine chSkip rfl rfl rfl rfl ?_
        refine chGo rfl rfl (ev tab rfl) rfl ?_
        refine chPu (ev tab rfl) rfl ?_
        refine CH.nil ?_
        refine qv1 rfl rfl rfl
     ·
      iterate 4 refine chSkip rfl rfl rfl rfl ?_
      refine chGo rfl rfl (ev tab rfl) rfl ?_
      iterate 2 refine chPu (ev tab rfl) rfl ?_
      refine chGo rfl rfl (ev tab rfl) rfl ?_
      first | refine chGo rfl rfl (ev tab rfl) rfl ?_ | refine chGo rfl rfl (loadRow tab rfl rfl rfl rfl) rfl ?_ | refine chGo rfl rfl (loadBox tab rfl rfl rfl rfl rfl) rfl ?_
      refine chGo rfl rfl (puCall rfl rfl rfl (kids_fn ..) rfl) rfl ?_
      refine chGo rfl rfl (ev tab rfl) rfl ?_
      refine chGo rfl rfl (ev tab rfl) rfl ?_
      apply chSplitJ; (case hj => rfl); (case hl => rfl)
      ·
       refine chGo rfl rfl (ev tab rfl) rfl ?_
       first | refine chGo rfl rfl (ev tab rfl) rfl ?_ | refine chGo rfl rfl (loadRow tab rfl rfl rfl rfl) rfl ?_ | refine chGo rfl rfl (loadBox tab rfl rfl rfl rfl rfl) rfl ?_
       refine chGo rfl rfl (ev tab rfl) rfl ?_
       refine chGo rfl rfl (ev tab rfl) rfl ?_
       first | refine chGo rfl rfl (ev tab rfl) rfl ?_ | refine chGo rfl rfl (loadRow tab rfl rfl rfl rfl) rfl ?_ | refine chGo rfl rfl (loadBox tab rfl rfl rfl rfl rfl) rfl ?_
       refine chGo rfl rfl (puCall rfl rfl rfl (kids_fn ..) rfl) rfl ?_
       refine chGo rfl rfl (ev tab rfl) rfl ?_
       refine chGo rfl rfl (ev tab rfl) rfl ?_
       refine chPu (ev tab rfl) rfl ?_
       refine CH.nil ?_
       refine qv1 rfl rfl rfl
      ·
       iterate 7 refine chSkip rfl rfl rfl rfl ?_
       refine chGo rfl rfl (ev tab rfl) rfl ?_
       refine chPu (ev tab rfl) rfl ?_
       refine CH.nil ?_
       refine qv1 rfl rfl rfl
   ·
    iterate 3 refine chSkip rfl rfl rfl rfl ?_
    iterate 2 refine chPu (ev tab rfl) rfl ?_
    refine chGo rfl rfl (ev tab rfl) rfl ?_
    first | refine chGo rfl rfl (ev tab rfl) rfl ?_ | refine chGo rfl rfl (loadRow tab rfl rfl rfl rfl) rfl ?_ | refine chGo rfl rfl (loadBox tab rfl rfl rfl rfl rfl) rfl ?_
    refine chGo rfl rfl (ev tab rfl) rfl ?_
    refine chGo rfl rfl (ev tab rfl) rfl ?_
    apply chSplitJ; (case hj => rfl); (case hl => rfl)
    ·
     refine chGo rfl rfl (ev tab rfl) rfl ?_
     first | refine chGo rfl rfl (ev tab rfl) rfl ?_ | refine chGo rfl rfl (loadRow tab rfl rfl rfl rfl) rfl ?_ | refine chGo rfl rfl (loadBox tab rfl rfl rfl rfl rfl) rfl ?_
     refine chGo rfl rfl (build tab rfl rfl rfl rfl) rfl ?_
     refine chGo rfl rfl (ev tab rfl) rfl ?_
     refine chGo rfl rfl (ev tab rfl) rfl ?_
     iterate 2 refine chPu (ev tab rfl) rfl ?_
     apply chSplitJ; (case hj => rfl); (case hl => rfl)
     ·
      iterate 5 refine chSkip rfl rfl rfl rfl ?_
      iterate 7 refine chSkipU rfl rfl rfl ?_
      refine chSkip rfl rfl rfl rfl ?_
      refine chPu (ev tab rfl) rfl ?_
      refine CH.nil ?_
      refine qv1 rfl rfl rfl
     ·
      refine chGo rfl rfl (ev tab rfl) rfl ?_
      first | refine chGo rfl rfl (ev tab rfl) rfl ?_ | refine chGo rfl rfl (loadRow tab rfl rfl rfl rfl) rfl ?_ | refine chGo rfl rfl (loadBox tab rfl rfl rfl rfl rfl) rfl ?_
      refine chGo rfl rfl (puCall rfl rfl rfl (kids_fn ..) rfl) rfl ?_
      refine chGo rfl rfl (ev tab rfl) rfl ?_
      refine chGo rfl rfl (ev tab rfl) rfl ?_
      apply chSplitJ; (case hj => rfl); (case hl => rfl)
      ·
       refine chGo rfl rfl (ev tab rfl) rfl ?_
       first | refine chGo rfl rfl (ev tab rfl) rfl ?_ | refine chGo rfl rfl (loadRow tab rfl rfl rfl rfl) rfl ?_ | refine chGo rfl rfl (loadBox tab rfl rfl rfl rfl rfl) rfl ?_
       refine chGo rfl rfl (ev tab rfl) rfl ?_
       refine chGo rfl rfl (ev tab rfl) rfl ?_
       first | refine chGo rfl rfl (ev tab rfl) rfl ?_ | refine chGo rfl rfl (loadRow tab rfl rfl rfl rfl) rfl ?_ | refine chGo rfl rfl (loadBox tab rfl rfl rfl rfl rfl) rfl ?_
       refine chGo rfl rfl (puCall rfl rfl rfl (kids_fn ..) rfl) rfl ?_
       refine chGo rfl rfl (ev tab rfl) rfl ?_
       refine chGo rfl rfl (ev tab rfl) rfl ?_
       refine chPu (ev tab rfl) rfl ?_
       refine CH.nil ?_
       refine qv1 rfl rfl rfl
      ·
       iterate 7 refine chSkip rfl rfl rfl rfl ?_
       refine chGo rfl rfl (ev tab rfl) rfl ?_
       refine chPu (ev tab rfl) rfl ?_
       refine CH.nil ?_
       refine qv1 rfl rfl rfl
    ·
     iterate 4 refine chSkip rfl rfl rfl rfl ?_
     refine chGo rfl rfl (ev tab rfl) rfl ?_
     iterate 2 refine chPu (ev tab rfl) rfl ?_
     refine chGo rfl rfl (ev tab rfl) rfl ?_
     first | refine chGo rfl rfl (ev tab rfl) rfl ?_ | refine chGo rfl rfl (loadRow tab rfl rfl rfl rfl) rfl ?_ | refine chGo rfl rfl (loadBox tab rfl rfl rfl rfl rfl) rfl ?_
     refine chGo rfl rfl (puCall rfl rfl rfl (kids_fn ..) rfl) rfl ?_
     refine chGo rfl rfl (ev tab rfl) rfl ?_
     refine chGo rfl rfl (ev tab rfl) rfl ?_
     apply chSplitJ; (case hj => rfl); (case hl => rfl)
     ·
      refine chGo rfl rfl (ev tab rfl) rfl ?_
      first | refine chGo rfl rfl (ev tab rfl) rfl ?_ | refine chGo rfl rfl (loadRow tab rfl rfl rfl rfl) rfl ?_ | refine chGo rfl rfl (loadBox tab rfl rfl rfl rfl rfl) rfl ?_
      refine chGo rfl rfl (ev tab rfl) rfl ?_
      refine chGo rfl rfl (ev tab rfl) rfl ?_
      first | refine chGo rfl rfl (ev tab rfl) rfl ?_ | refine chGo rfl rfl (loadRow tab rfl rfl rfl rfl) rfl ?_ | refine chGo rfl rfl (loadBox tab rfl rfl rfl rfl rfl) rfl ?_
      refine chGo rfl rfl (puCall rfl rfl rfl (kids_fn ..) rfl) rfl ?_
      refine chGo rfl rfl (ev tab rfl) rfl ?_
      refine chGo rfl rfl (ev tab rfl) rfl ?_
      refine chPu (ev tab rfl) rfl ?_
      refine CH.nil ?_
      refine qv1 rfl rfl rfl
     ·
      iterate 7 refine chSkip rfl rfl rfl rfl ?_
      refine chGo rfl rfl (ev tab rfl) rfl ?_
      refine chPu (ev tab rfl) rfl ?_
      refine CH.nil ?_
      refine qv1 rfl rfl rfl
  refine qs ?_
  refine condK rfl (fun h52 => ?_) (fun h52 => ?_)
  ·
   refine W.seq (W.region ?_)
   refine pE rfl ?_
   refine WO.nil (qs (W.ret (qsRet ?_)))
   refine QF.ret0 trivial rfl ?_
   simp only [norm, oneA, nodeErr, zeroV] at *; generalize kidsOf e.op = q at *; grind
  ·
   refine W.skip (qs ?_)
   iterate 2 refine W.seq ?_
   refine W.region ?_
   refine pE rfl ?_
   first | refine pE rfl ?_ | refine pR rfl rfl rfl rfl rfl ?_ | refine pB rfl rfl rfl rfl rfl rfl ?_
   refine pE rfl ?_
   refine WO.nil (qs ?_)
   refine condK rfl (fun h55 => ?_) (fun h55 => ?_)
   ·
    refine W.seq (W.region ?_)
    refine pE rfl ?_
    first | refine pE rfl ?_ | refine pR rfl rfl rfl rfl rfl ?_ | refine pB rfl rfl rfl rfl rfl rfl ?_
    refine pu (puCall rfl rfl rfl (rconstant_fn ..) rfl) rfl ?_
    refine pE rfl ?_
    refine WO.nil (qs (W.ret (qsRet ?_)))
    refine QF.ret0 trivial rfl ?_
    simp only [norm, oneA, nodeErr, zeroV] at *; generalize kidsOf e.op = q at *; grind
   ·
    refine W.skip (qs ?_)
    iterate 2 refine W.seq ?_
    apply regionB; (case hb => rfl)
    ·
     refine pE rfl ?_
     first | refine pE rfl ?_ | refine pR rfl rfl rfl rfl rfl ?_ | refine pB rfl rfl rfl rfl rfl rfl ?_
     iterate 2 refine pE rfl ?_
     apply splitJ; (case hj => rfl); (case hl => rfl)
     ·
      refine goG rfl rfl ?_
      refine pE rfl ?_
      refine goG rfl rfl ?_
      first | refine pE rfl ?_ | refine pR rfl rfl rfl rfl rfl ?_ | refine pB rfl rfl rfl rfl rfl rfl ?_
      refine goG rfl rfl ?_
      refine pu (puCall rfl rfl rfl (ident_fn ..) rfl) rfl ?_
      refine goG rfl rfl ?_
      iterate 2 refine pE rfl ?_
      refine WO.nil ?_
      refine qv1 rfl rfl rfl
     ·
      iterate 4 refine skipT rfl rfl rfl rfl ?_
      refine pE rfl ?_
      refine WO.nil ?_
      refine qv1 rfl rfl rfl
    refine qs ?_
    refine condK rfl (fun h67 => ?_) (fun h67 => ?_)
    ·
     refine W.seq (W.region ?_)
     refine pE rfl ?_
     refine WO.nil (qs (W.ret (qsRet ?_)))
     refine QF.ret0 trivial rfl ?_
     simp only [norm, oneA, nodeErr, zeroV] at *; generalize kidsOf e.op = q at *; grind
    ·
     refine W.skip (qs ?_)
     iterate 2 refine W.seq ?_
     refine W.region ?_
     refine pE rfl ?_
     first | refine pE rfl ?_ | refine pR rfl rfl rfl rfl rfl ?_ | refine pB rfl rfl rfl rfl rfl rfl ?_
     refine pE rfl ?_
     refine WO.nil (qs ?_)
     refine condK rfl (fun h70 => ?_) (fun h70 => ?_)
     ·
      refine W.seq (W.region ?_)
      first | refine pE rfl ?_ | refine pR rfl rfl rfl rfl rfl ?_ | refine pB rfl rfl rfl rfl rfl rfl ?_
      refine pu (puCall rfl rfl rfl (called_fn ..) rfl) rfl ?_
      refine pE rfl ?_
      refine WO.nil (qs (W.ret (qsRet ?_)))
      refine QF.ret0 trivial rfl ?_
      simp only [norm, oneA, nodeErr, zeroV] at *; generalize kidsOf e.op = q at *; grind
     ·
      refine W.skip (qs (W.seq (W.region ?_)))
      refine pE rfl ?_
      refine WO.nil (qs (W.ret ?_))
      refine QF.ret0 trivial rfl ?_
      simp only [norm, oneA, nodeErr, zeroV] at *; generalize kidsOf e.op = q at *; grind
theorem node_fn (e : Ex) : Does Tryz.prog 114 [.ag e.c] (.d (.v (.int .i64 (nodeErr e)))) 0 := by
 refine Does.of_W (n := 94) (ts := [2]) Tryz.func114 (by kernel_rfl) rfl Tryz.ntmps114 Tryz.results114 rfl rfl fun C hC hG => ?_
 have hkl := Ex.kc_len e
 refine W.seq (W.region ?_)
 refine boxR rfl rfl rfl ?_
 refine pE rfl ?_
 refine WO.nil (qs (W.seq (W.region ?_)))
 iterate 3 refine pE rfl ?_
 refine WO.nil (qs (W.seq (W.block (W.seq (W.region ?_)))))
 refine pE rfl ?_
 first | refine pE rfl ?_ | refine pR rfl rfl rfl rfl rfl ?_ | refine pB rfl rfl rfl rfl rfl rfl ?_
 iterate 2 refine pE rfl ?_
 refine WO.nil (qs ?_)
 refine condK rfl (fun h6 => ?_) (fun h6 => ?_)
 ·
  refine W.region ?_
  iterate 2 refine pE rfl ?_
  refine WO.nil (qbN (qs (W.seq (W.block ?_))))
  iterate 2 refine W.seq ?_
  refine W.region ?_
  refine pE rfl ?_
  first | refine pE rfl ?_ | refine pR rfl rfl rfl rfl rfl ?_ | refine pB rfl rfl rfl rfl rfl rfl ?_
  iterate 4 refine pE rfl ?_
  refine WO.nil (qs ?_)
  refine condK rfl (fun h39 => ?_) (fun h39 => ?_)
  ·
   refine W.skip (qs ?_)
   refine W.condT rfl ?_
   refine W.seq (W.region ?_)
   refine pE rfl ?_
   refine WO.nil (qs (W.ret (qbRet (qsRet ?_))))
   refine QF.ret0 trivial rfl ?_
   simp only [norm, oneA, nodeErr, kidsOf, zeroV] at *; grind
  ·
   refine W.seq ?_
   apply regionB; (case hb => rfl)
   ·
    refine pE rfl ?_
    first | refine pE rfl ?_ | refine pR rfl rfl rfl rfl rfl ?_ | refine pB rfl rfl rfl rfl rfl rfl ?_
    iterate 2 refine pE rfl ?_
    apply splitJ; (case hj => rfl); (case hl => rfl)
    ·
     refine goG rfl rfl ?_
     refine pE rfl ?_
     refine goG rfl rfl ?_
     iterate 3 refine pE rfl ?_
     refine WO.nil ?_
     refine qv1 rfl rfl rfl
    ·
     iterate 2 refine skipT rfl rfl rfl rfl ?_
     iterate 2 refine pE rfl ?_
     refine WO.nil ?_
     refine qv1 rfl rfl rfl
   refine qs ?_
   refine condK rfl (fun h39 => ?_) (fun h39 => ?_)
   ·
    refine W.skip (qs ?_)
    refine W.condT rfl ?_
    refine W.seq (W.region ?_)
    refine pE rfl ?_
    refine WO.nil (qs (W.ret (qbRet (qsRet ?_))))
    refine QF.ret0 trivial rfl ?_
    simp only [norm, oneA, nodeErr, kidsOf, zeroV] at *; grind
   ·
    apply regionB; (case hb => rfl)
    ·
     refine pE rfl ?_
     first | refine pE rfl ?_ | refine pR rfl rfl rfl rfl rfl ?_ | refine pB rfl rfl rfl rfl rfl rfl ?_
     refine pu (build tab rfl rfl rfl rfl) rfl ?_
     iterate 2 refine pE rfl ?_
     apply splitJ; (case hj => rfl); (case hl => rfl)
     ·
      refine goG rfl rfl ?_
      refine pE rfl ?_
      refine goG rfl rfl ?_
      iterate 3 refine pE rfl ?_
      refine WO.nil ?_
      refine qv1 rfl rfl rfl
     ·
      iterate 2 refine skipT rfl rfl rfl rfl ?_
      iterate 2 refine pE rfl ?_
      refine WO.nil ?_
      refine qv1 rfl rfl rfl
    refine qs ?_
    refine condK rfl (fun h39 => ?_) (fun h39 => ?_)
    ·
     refine W.seq (W.region ?_)
     refine pE rfl ?_
     refine WO.nil (qs (W.ret (qbRet (qsRet ?_))))
     refine QF.ret0 trivial rfl ?_
     simp only [norm, oneA, nodeErr, kidsOf, zeroV] at *; grind
    ·
     refine W.seq (W.region ?_)
     iterate 2 refine pE rfl ?_
     refine WO.nil (qs ?_)
     refine W.condT rfl ?_
     refine W.seq (W.region ?_)
     refine pE rfl ?_
     first | refine pE rfl ?_ | refine pR rfl rfl rfl rfl rfl ?_ | refine pB rfl rfl rfl rfl rfl rfl ?_
     refine pu (puCall rfl rfl rfl (constant_fn ..) rfl) rfl ?_
     refine pE rfl ?_
     refine WO.nil (qs (W.ret (qbRet (qsRet ?_))))
     refine QF.ret0 trivial rfl ?_
     simp only [norm, oneA, nodeErr, kidsOf, zeroV] at *; grind
 ·
  refine W.seq (W.region ?_)
  refine pE rfl ?_
  first | refine pE rfl ?_ | refine pR rfl rfl rfl rfl rfl ?_ | refine pB rfl rfl rfl rfl rfl rfl ?_
  iterate 2 refine pE rfl ?_
  refine WO.nil (qs ?_)
  refine condK rfl (fun h10 => ?_) (fun h10 => ?_)
  ·
   refine W.region ?_
   iterate 2 refine pE rfl ?_
   refine WO.nil (qbN (qs (W.seq (W.block ?_))))
   iterate 2 refine W.seq ?_
   refine W.region ?_
   refine pE rfl ?_
   first | refine pE rfl ?_ | refine pR rfl rfl rfl rfl rfl ?_ | refine pB rfl rfl rfl rfl rfl rfl ?_
   iterate 4 refine pE rfl ?_
   refine WO.nil (qs ?_)
   refine condK rfl (fun h39 => ?_) (fun h39 => ?_)
   ·
    refine W.skip (qs ?_)
    refine W.condT rfl ?_
    refine W.seq (W.region ?_)
    refine pE rfl ?_
    refine WO.nil (qs (W.ret (qbRet (qsRet ?_))))
    refine QF.ret0 trivial rfl ?_
    simp only [norm, oneA, nodeErr, kidsOf, zeroV] at *; grind
   ·
    refine W.seq ?_
    apply regionB; (case hb => rfl)
    ·
     refine pE rfl ?_
     first | refine pE rfl ?_ | refine pR rfl rfl rfl rfl rfl ?_ | refine pB rfl rfl rfl rfl rfl rfl ?_
     iterate 2 refine pE rfl ?_
     apply splitJ; (case hj => rfl); (case hl => rfl)
     ·
      refine goG rfl rfl ?_
      refine pE rfl ?_
      refine goG rfl rfl ?_
      iterate 3 refine pE rfl ?_
      refine WO.nil ?_
      refine qv1 rfl rfl rfl
     ·
      iterate 2 refine skipT rfl rfl rfl rfl ?_
      iterate 2 refine pE rfl ?_
      refine WO.nil ?_
      refine qv1 rfl rfl rfl
    refine qs ?_
    refine condK rfl (fun h39 => ?_) (fun h39 => ?_)
    ·
     refine W.skip (qs ?_)
     refine W.condT rfl ?_
     refine W.seq (W.region ?_)
     refine pE rfl ?_
     refine WO.nil (qs (W.ret (qbRet (qsRet ?_))))
     refine QF.ret0 trivial rfl ?_
     simp only [norm, oneA, nodeErr, kidsOf, zeroV] at *; grind
    ·
     apply regionB; (case hb => rfl)
     ·
      refine pE rfl ?_
      first | refine pE rfl ?_ | refine pR rfl rfl rfl rfl rfl ?_ | refine pB rfl rfl rfl rfl rfl rfl ?_
      refine pu (build tab rfl rfl rfl rfl) rfl ?_
      iterate 2 refine pE rfl ?_
      apply splitJ; (case hj => rfl); (case hl => rfl)
      ·
       refine goG rfl rfl ?_
       refine pE rfl ?_
       refine goG rfl rfl ?_
       iterate 3 refine pE rfl ?_
       refine WO.nil ?_
       refine qv1 rfl rfl rfl
      ·
       iterate 2 refine skipT rfl rfl rfl rfl ?_
       iterate 2 refine pE rfl ?_
       refine WO.nil ?_
       refine qv1 rfl rfl rfl
     refine qs ?_
     refine condK rfl (fun h39 => ?_) (fun h39 => ?_)
     ·
      refine W.seq (W.region ?_)
      refine pE rfl ?_
      refine WO.nil (qs (W.ret (qbRet (qsRet ?_))))
      refine QF.ret0 trivial rfl ?_
      simp only [norm, oneA, nodeErr, kidsOf, zeroV] at *; grind
     ·
      refine W.seq (W.region ?_)
      iterate 2 refine pE rfl ?_
      refine WO.nil (qs ?_)
      refine W.condF rfl ?_
      refine W.seq ?_
      apply regionB; (case hb => rfl)
      ·
       iterate 2 refine pE rfl ?_
       refine goG rfl rfl ?_
       refine pE rfl ?_
       refine goG rfl rfl ?_
       first | refine pE rfl ?_ | refine pR rfl rfl rfl rfl rfl ?_ | refine pB rfl rfl rfl rfl rfl rfl ?_
       refine goG rfl rfl ?_
       refine pu (puCall rfl rfl rfl (identifier_fn ..) rfl) rfl ?_
       refine goG rfl rfl ?_
       iterate 3 refine pE rfl ?_
       refine WO.nil ?_
       refine qv1 rfl rfl rfl
      refine qs ?_
      refine condK rfl (fun h65 => ?_) (fun h65 => ?_)
      ·
       refine W.seq (W.region ?_)
       refine pE rfl ?_
       refine WO.nil (qs (W.ret (qbRet (qsRet ?_))))
       refine QF.ret0 trivial rfl ?_
       simp only [norm, oneA, nodeErr, kidsOf, zeroV] at *; grind
      ·
       refine W.seq ?_
       apply regionB; (case hb => rfl)
       ·
        refine pE rfl ?_
        first | refine pE rfl ?_ | refine pR rfl rfl rfl rfl rfl ?_ | refine pB rfl rfl rfl rfl rfl rfl ?_
        iterate 2 refine pE rfl ?_
        apply splitJ; (case hj => rfl); (case hl => rfl)
        ·
         refine goG rfl rfl ?_
         refine pE rfl ?_
         refine goG rfl rfl ?_
         first | refine pE rfl ?_ | refine pR rfl rfl rfl rfl rfl ?_ | refine pB rfl rfl rfl rfl rfl rfl ?_
         refine goG rfl rfl ?_
         refine pu (puCall rfl rfl rfl (arity_fn ..) rfl) rfl ?_
         refine goG rfl rfl ?_
         iterate 3 refine pE rfl ?_
         refine WO.nil ?_
         refine qv1 rfl rfl rfl
        ·
         iterate 4 refine skipT rfl rfl rfl rfl ?_
         iterate 2 refine pE rfl ?_
         refine WO.nil ?_
         refine qv1 rfl rfl rfl
       refine qs ?_
       refine condK rfl (fun h73 => ?_) (fun h73 => ?_)
       ·
        refine W.seq (W.region ?_)
        refine pE rfl ?_
        refine WO.nil (qs (W.ret (qbRet (qsRet ?_))))
        refine QF.ret0 trivial rfl ?_
        simp only [norm, oneA, nodeErr, kidsOf, zeroV] at *; grind
       ·
        refine W.seq ?_
        apply regionB; (case hb => rfl)
        ·
         refine pE rfl ?_
         first | refine pE rfl ?_ | refine pR rfl rfl rfl rfl rfl ?_ | refine pB rfl rfl rfl rfl rfl rfl ?_
         iterate 2 refine pE rfl ?_
         apply splitJ; (case hj => rfl); (case hl => rfl)
         ·
          refine goG rfl rfl ?_
          refine pE rfl ?_
          refine goG rfl rfl ?_
          first | refine pE rfl ?_ | refine pR rfl rfl rfl rfl rfl ?_ | refine pB rfl rfl rfl rfl rfl rfl ?_
          refine goG rfl rfl ?_
          refine pu (puCall rfl rfl rfl (arity_fn ..) rfl) rfl ?_
          refine goG rfl rfl ?_
          refine pE rfl ?_
          refine goG rfl rfl ?_
          iterate 3 refine pE rfl ?_
          refine WO.nil ?_
          refine qv1 rfl rfl rfl
         ·
          iterate 5 refine skipT rfl rfl rfl rfl ?_
          iterate 2 refine pE rfl ?_
          refine WO.nil ?_
          refine qv1 rfl rfl rfl
        refine qs ?_
        refine condK rfl (fun h83 => ?_) (fun h83 => ?_)
        ·
         refine W.seq (W.region ?_)
         refine pE rfl ?_
         refine WO.nil (qs (W.ret (qbRet (qsRet ?_))))
         refine QF.ret0 trivial rfl ?_
         simp only [norm, oneA, nodeErr, kidsOf, zeroV] at *; grind
        ·
         refine W.skip (qbN (qs (W.seq (W.region ?_))))
         refine pE rfl ?_
         refine WO.nil (qs (W.ret ?_))
         refine QF.ret0 trivial rfl ?_
         simp only [norm, oneA, nodeErr, kidsOf, zeroV] at *; grind
  ·
   refine W.seq ?_
   apply regionB; (case hb => rfl)
   ·
    refine pE rfl ?_
    first | refine pE rfl ?_ | refine pR rfl rfl rfl rfl rfl ?_ | refine pB rfl rfl rfl rfl rfl rfl ?_
    iterate 2 refine pE rfl ?_
    apply splitJ; (case hj => rfl); (case hl => rfl)
    ·
     iterate 3 refine skipT rfl rfl rfl rfl ?_
     iterate 2 refine pE rfl ?_
     refine WO.nil ?_
     refine qv1 rfl rfl rfl
    ·
     refine goG rfl rfl ?_
     refine pE rfl ?_
     refine goG rfl rfl ?_
     first | refine pE rfl ?_ | refine pR rfl rfl rfl rfl rfl ?_ | refine pB rfl rfl rfl rfl rfl rfl ?_
     refine goG rfl rfl ?_
     iterate 3 refine pE rfl ?_
     refine WO.nil ?_
     refine qv1 rfl rfl rfl
   refine qs ?_
   refine condK rfl (fun h14 => ?_) (fun h14 => ?_)
   ·
    refine W.region ?_
    refine pE rfl ?_
    refine WO.nil (qbN (qs (W.seq (W.block ?_))))
    iterate 2 refine W.seq ?_
    refine W.region ?_
    refine pE rfl ?_
    first | refine pE rfl ?_ | refine pR rfl rfl rfl rfl rfl ?_ | refine pB rfl rfl rfl rfl rfl rfl ?_
    iterate 4 refine pE rfl ?_
    refine WO.nil (qs ?_)
    refine condK rfl (fun h39 => ?_) (fun h39 => ?_)
    ·
     refine W.skip (qs ?_)
     refine W.condT rfl ?_
     refine W.seq (W.region ?_)
     refine pE rfl ?_
     refine WO.nil (qs (W.ret (qbRet (qsRet ?_))))
     refine QF.ret0 trivial rfl ?_
     simp only [norm, oneA, nodeErr, kidsOf, zeroV] at *; grind
    ·
     refine W.seq ?_
     apply regionB; (case hb => rfl)
     ·
      refine pE rfl ?_
      first | refine pE rfl ?_ | refine pR rfl rfl rfl rfl rfl ?_ | refine pB rfl rfl rfl rfl rfl rfl ?_
      iterate 2 refine pE rfl ?_
      apply splitJ; (case hj => rfl); (case hl => rfl)
      ·
       refine goG rfl rfl ?_
       refine pE rfl ?_
       refine goG rfl rfl ?_
       iterate 3 refine pE rfl ?_
       refine WO.nil ?_
       refine qv1 rfl rfl rfl
      ·
       iterate 2 refine skipT rfl rfl rfl rfl ?_
       iterate 2 refine pE rfl ?_
       refine WO.nil ?_
       refine qv1 rfl rfl rfl
     refine qs ?_
     refine condK rfl (fun h39 => ?_) (fun h39 => ?_)
     ·
      refine W.skip (qs ?_)
      refine W.condT rfl ?_
      refine W.seq (W.region ?_)
      refine pE rfl ?_
      refine WO.nil (qs (W.ret (qbRet (qsRet ?_))))
      refine QF.ret0 trivial rfl ?_
      simp only [norm, oneA, nodeErr, kidsOf, zeroV] at *; grind
     ·
      apply regionB; (case hb => rfl)
      ·
       refine pE rfl ?_
       first | refine pE rfl ?_ | refine pR rfl rfl rfl rfl rfl ?_ | refine pB rfl rfl rfl rfl rfl rfl ?_
       refine pu (build tab rfl rfl rfl rfl) rfl ?_
       iterate 2 refine pE rfl ?_
       apply splitJ; (case hj => rfl); (case hl => rfl)
       ·
        refine goG rfl rfl ?_
        refine pE rfl ?_
        refine goG rfl rfl ?_
        iterate 3 refine pE rfl ?_
        refine WO.nil ?_
        refine qv1 rfl rfl rfl
       ·
        iterate 2 refine skipT rfl rfl rfl rfl ?_
        iterate 2 refine pE rfl ?_
        refine WO.nil ?_
        refine qv1 rfl rfl rfl
      refine qs ?_
      refine condK rfl (fun h39 => ?_) (fun h39 => ?_)
      ·
       refine W.seq (W.region ?_)
       refine pE rfl ?_
       refine WO.nil (qs (W.ret (qbRet (qsRet ?_))))
       refine QF.ret0 trivial rfl ?_
       simp only [norm, oneA, nodeErr, kidsOf, zeroV] at *; grind
      ·
       refine W.seq (W.region ?_)
       iterate 2 refine pE rfl ?_
       refine WO.nil (qs ?_)
       refine W.condF rfl ?_
       refine W.seq ?_
       apply regionB; (case hb => rfl)
       ·
        iterate 2 refine pE rfl ?_
        iterate 4 refine skipT rfl rfl rfl rfl ?_
        iterate 2 refine pE rfl ?_
        refine WO.nil ?_
        refine qv1 rfl rfl rfl
       refine qs ?_
       refine condK rfl (fun h65 => ?_) (fun h65 => ?_)
       ·
        refine W.seq (W.region ?_)
        refine pE rfl ?_
        refine WO.nil (qs (W.ret (qbRet (qsRet ?_))))
        refine QF.ret0 trivial rfl ?_
        simp only [norm, oneA, nodeErr, kidsOf, zeroV] at *; grind
       ·
        refine W.seq ?_
        apply regionB; (case hb => rfl)
        ·
         refine pE rfl ?_
         first | refine pE rfl ?_ | refine pR rfl rfl rfl rfl rfl ?_ | refine pB rfl rfl rfl rfl rfl rfl ?_
         iterate 2 refine pE rfl ?_
         apply splitJ; (case hj => rfl); (case hl => rfl)
         ·
          refine goG rfl rfl ?_
          refine pE rfl ?_
          refine goG rfl rfl ?_
          first | refine pE rfl ?_ | refine pR rfl rfl rfl rfl rfl ?_ | refine pB rfl rfl rfl rfl rfl rfl ?_
          refine goG rfl rfl ?_
          refine pu (puCall rfl rfl rfl (arity_fn ..) rfl) rfl ?_
          refine goG rfl rfl ?_
          iterate 3 refine pE rfl ?_
          refine WO.nil ?_
          refine qv1 rfl rfl rfl
         ·
          iterate 4 refine skipT rfl rfl rfl rfl ?_
          iterate 2 refine pE rfl ?_
          refine WO.nil ?_
          refine qv1 rfl rfl rfl
        refine qs ?_
        refine condK rfl (fun h73 => ?_) (fun h73 => ?_)
        ·
         refine W.seq (W.region ?_)
         refine pE rfl ?_
         refine WO.nil (qs (W.ret (qbRet (qsRet ?_))))
         refine QF.ret0 trivial rfl ?_
         simp only [norm, oneA, nodeErr, kidsOf, zeroV] at *; grind
        ·
         refine W.seq ?_
         apply regionB; (case hb => rfl)
         ·
          refine pE rfl ?_
          first | refine pE rfl ?_ | refine pR rfl rfl rfl rfl rfl ?_ | refine pB rfl rfl rfl rfl rfl rfl ?_
          iterate 2 refine pE rfl ?_
          apply splitJ; (case hj => rfl); (case hl => rfl)
          ·
           refine goG rfl rfl ?_
           refine pE rfl ?_
           refine goG rfl rfl ?_
           first | refine pE rfl ?_ | refine pR rfl rfl rfl rfl rfl ?_ | refine pB rfl rfl rfl rfl rfl rfl ?_
           refine goG rfl rfl ?_
           refine pu (puCall rfl rfl rfl (arity_fn ..) rfl) rfl ?_
           refine goG rfl rfl ?_
           refine pE rfl ?_
           refine goG rfl rfl ?_
           iterate 3 refine pE rfl ?_
           refine WO.nil ?_
           refine qv1 rfl rfl rfl
          ·
           iterate 5 refine skipT rfl rfl rfl rfl ?_
           iterate 2 refine pE rfl ?_
           refine WO.nil ?_
           refine qv1 rfl rfl rfl
         refine qs ?_
         refine condK rfl (fun h83 => ?_) (fun h83 => ?_)
         ·
          refine W.seq (W.region ?_)
          refine pE rfl ?_
          refine WO.nil (qs (W.ret (qbRet (qsRet ?_))))
          refine QF.ret0 trivial rfl ?_
          simp only [norm, oneA, nodeErr, kidsOf, zeroV] at *; grind
         ·
          refine W.skip (qbN (qs (W.seq (W.region ?_))))
          refine pE rfl ?_
          refine WO.nil (qs (W.ret ?_))
          refine QF.ret0 trivial rfl ?_
          simp only [norm, oneA, nodeErr, kidsOf, zeroV] at *; grind
   ·
    refine W.seq (W.region ?_)
    refine pE rfl ?_
    first | refine pE rfl ?_ | refine pR rfl rfl rfl rfl rfl ?_ | refine pB rfl rfl rfl rfl rfl rfl ?_
    iterate 2 refine pE rfl ?_
    refine WO.nil (qs ?_)
    refine condK rfl (fun h23 => ?_) (fun h23 => ?_)
    ·
     refine W.region ?_
     refine pE rfl ?_
     first | refine pE rfl ?_ | refine pR rfl rfl rfl rfl rfl ?_ | refine pB rfl rfl rfl rfl rfl rfl ?_
     iterate 3 refine pE rfl ?_
     refine WO.nil (qbN (qs (W.seq (W.block ?_))))
     iterate 2 refine W.seq ?_
     refine W.region ?_
     refine pE rfl ?_
     first | refine pE rfl ?_ | refine pR rfl rfl rfl rfl rfl ?_ | refine pB rfl rfl rfl rfl rfl rfl ?_
     iterate 4 refine pE rfl ?_
     refine WO.nil (qs ?_)
     refine condK rfl (fun h39 => ?_) (fun h39 => ?_)
     ·
      refine W.skip (qs ?_)
      refine W.condT rfl ?_
      refine W.seq (W.region ?_)
      refine pE rfl ?_
      refine WO.nil (qs (W.ret (qbRet (qsRet ?_))))
      refine QF.ret0 trivial rfl ?_
      simp only [norm, oneA, nodeErr, kidsOf, zeroV] at *; grind
     ·
      refine W.seq ?_
      apply regionB; (case hb => rfl)
      ·
       refine pE rfl ?_
       first | refine pE rfl ?_ | refine pR rfl rfl rfl rfl rfl ?_ | refine pB rfl rfl rfl rfl rfl rfl ?_
       iterate 2 refine pE rfl ?_
       apply splitJ; (case hj => rfl); (case hl => rfl)
       ·
        refine goG rfl rfl ?_
        refine pE rfl ?_
        refine goG rfl rfl ?_
        iterate 3 refine pE rfl ?_
        refine WO.nil ?_
        refine qv1 rfl rfl rfl
       ·
        iterate 2 refine skipT rfl rfl rfl rfl ?_
        iterate 2 refine pE rfl ?_
        refine WO.nil ?_
        refine qv1 rfl rfl rfl
      refine qs ?_
      refine condK rfl (fun h39 => ?_) (fun h39 => ?_)
      ·
       refine W.skip (qs ?_)
       refine W.condT rfl ?_
       refine W.seq (W.region ?_)
       refine pE rfl ?_
       refine WO.nil (qs (W.ret (qbRet (qsRet ?_))))
       refine QF.ret0 trivial rfl ?_
       simp only [norm, oneA, nodeErr, kidsOf, zeroV] at *; grind
      ·
       apply regionB; (case hb => rfl)
       ·
        refine pE rfl ?_
        first | refine pE rfl ?_ | refine pR rfl rfl rfl rfl rfl ?_ | refine pB rfl rfl rfl rfl rfl rfl ?_
        refine pu (build tab rfl rfl rfl rfl) rfl ?_
        iterate 2 refine pE rfl ?_
        apply splitJ; (case hj => rfl); (case hl => rfl)
        ·
         refine goG rfl rfl ?_
         refine pE rfl ?_
         refine goG rfl rfl ?_
         iterate 3 refine pE rfl ?_
         refine WO.nil ?_
         refine qv1 rfl rfl rfl
        ·
         iterate 2 refine skipT rfl rfl rfl rfl ?_
         iterate 2 refine pE rfl ?_
         refine WO.nil ?_
         refine qv1 rfl rfl rfl
       refine qs ?_
       refine condK rfl (fun h39 => ?_) (fun h39 => ?_)
       ·
        refine W.seq (W.region ?_)
        refine pE rfl ?_
        refine WO.nil (qs (W.ret (qbRet (qsRet ?_))))
        refine QF.ret0 trivial rfl ?_
        simp only [norm, oneA, nodeErr, kidsOf, zeroV] at *; grind
       ·
        refine W.seq (W.region ?_)
        iterate 2 refine pE rfl ?_
        refine WO.nil (qs ?_)
        refine W.condF rfl ?_
        refine W.seq ?_
        apply regionB; (case hb => rfl)
        ·
         iterate 2 refine pE rfl ?_
         refine goG rfl rfl ?_
         refine pE rfl ?_
         refine goG rfl rfl ?_
         first | refine pE rfl ?_ | refine pR rfl rfl rfl rfl rfl ?_ | refine pB rfl rfl rfl rfl rfl rfl ?_
         refine goG rfl rfl ?_
         refine pu (puCall rfl rfl rfl (identifier_fn ..) rfl) rfl ?_
         refine goG rfl rfl ?_
         iterate 3 refine pE rfl ?_
         refine WO.nil ?_
         refine qv1 rfl rfl rfl
        refine qs ?_
        refine condK rfl (fun h65 => ?_) (fun h65 => ?_)
        ·
         refine W.seq (W.region ?_)
         refine pE rfl ?_
         refine WO.nil (qs (W.ret (qbRet (qsRet ?_))))
         refine QF.ret0 trivial rfl ?_
         simp only [norm, oneA, nodeErr, kidsOf, zeroV] at *; grind
        ·
         refine W.seq ?_
         apply regionB; (case hb => rfl)
         ·
          refine pE rfl ?_
          first | refine pE rfl ?_ | refine pR rfl rfl rfl rfl rfl ?_ | refine pB rfl rfl rfl rfl rfl rfl ?_
          iterate 2 refine pE rfl ?_
          apply splitJ; (case hj => rfl); (case hl => rfl)
          ·
           refine goG rfl rfl ?_
           refine pE rfl ?_
           refine goG rfl rfl ?_
           first | refine pE rfl ?_ | refine pR rfl rfl rfl rfl rfl ?_ | refine pB rfl rfl rfl rfl rfl rfl ?_
           refine goG rfl rfl ?_
           refine pu (puCall rfl rfl rfl (arity_fn ..) rfl) rfl ?_
           refine goG rfl rfl ?_
           iterate 3 refine pE rfl ?_
           refine WO.nil ?_
           refine qv1 rfl rfl rfl
          ·
           iterate 4 refine skipT rfl rfl rfl rfl ?_
           iterate 2 refine pE rfl ?_
           refine WO.nil ?_
           refine qv1 rfl rfl rfl
         refine qs ?_
         refine condK rfl (fun h73 => ?_) (fun h73 => ?_)
         ·
          refine W.seq (W.region ?_)
          refine pE rfl ?_
          refine WO.nil (qs (W.ret (qbRet (qsRet ?_))))
          refine QF.ret0 trivial rfl ?_
          simp only [norm, oneA, nodeErr, kidsOf, zeroV] at *; grind
         ·
          refine W.seq ?_
          apply regionB; (case hb => rfl)
          ·
           refine pE rfl ?_
           first | refine pE rfl ?_ | refine pR rfl rfl rfl rfl rfl ?_ | refine pB rfl rfl rfl rfl rfl rfl ?_
           iterate 2 refine pE rfl ?_
           apply splitJ; (case hj => rfl); (case hl => rfl)
           ·
            refine goG rfl rfl ?_
            refine pE rfl ?_
            refine goG rfl rfl ?_
            first | refine pE rfl ?_ | refine pR rfl rfl rfl rfl rfl ?_ | refine pB rfl rfl rfl rfl rfl rfl ?_
            refine goG rfl rfl ?_
            refine pu (puCall rfl rfl rfl (arity_fn ..) rfl) rfl ?_
            refine goG rfl rfl ?_
            refine pE rfl ?_
            refine goG rfl rfl ?_
            iterate 3 refine pE rfl ?_
            refine WO.nil ?_
            refine qv1 rfl rfl rfl
           ·
            iterate 5 refine skipT rfl rfl rfl rfl ?_
            iterate 2 refine pE rfl ?_
            refine WO.nil ?_
            refine qv1 rfl rfl rfl
          refine qs ?_
          refine condK rfl (fun h83 => ?_) (fun h83 => ?_)
          ·
           refine W.seq (W.region ?_)
           refine pE rfl ?_
           refine WO.nil (qs (W.ret (qbRet (qsRet ?_))))
           refine QF.ret0 trivial rfl ?_
           simp only [norm, oneA, nodeErr, kidsOf, zeroV] at *; grind
          ·
           refine W.skip (qbN (qs (W.seq (W.region ?_))))
           refine pE rfl ?_
           refine WO.nil (qs (W.ret ?_))
           refine QF.ret0 trivial rfl ?_
           simp only [norm, oneA, nodeErr, kidsOf, zeroV] at *; grind
    ·
     refine W.seq ?_
     apply regionB; (case hb => rfl)
     ·
      refine pE rfl ?_
      first | refine pE rfl ?_ | refine pR rfl rfl rfl rfl rfl ?_ | refine pB rfl rfl rfl rfl rfl rfl ?_
      iterate 2 refine pE rfl ?_
      apply splitJ; (case hj => rfl); (case hl => rfl)
      ·
       iterate 3 refine skipT rfl rfl rfl rfl ?_
       iterate 2 refine pE rfl ?_
       refine WO.nil ?_
       refine qv1 rfl rfl rfl
      ·
       refine goG rfl rfl ?_
       refine pE rfl ?_
       refine goG rfl rfl ?_
       first | refine pE rfl ?_ | refine pR rfl rfl rfl rfl rfl ?_ | refine pB rfl rfl rfl rfl rfl rfl ?_
       refine goG rfl rfl ?_
       iterate 3 refine pE rfl ?_
       refine WO.nil ?_
       refine qv1 rfl rfl rfl
     refine qs ?_
     refine condK rfl (fun h30 => ?_) (fun h30 => ?_)
     ·
      refine W.seq (W.region ?_)
      refine pE rfl ?_
      refine WO.nil (qs (W.ret (qbRet (qsRet ?_))))
      refine QF.ret0 trivial rfl ?_
      simp only [norm, oneA, nodeErr, kidsOf, zeroV] at *; grind
     ·
      refine W.skip (qbN (qs (W.seq (W.block ?_))))
      iterate 2 refine W.seq ?_
      refine W.region ?_
      refine pE rfl ?_
      first | refine pE rfl ?_ | refine pR rfl rfl rfl rfl rfl ?_ | refine pB rfl rfl rfl rfl rfl rfl ?_
      iterate 4 refine pE rfl ?_
      refine WO.nil (qs ?_)
      refine condK rfl (fun h39 => ?_) (fun h39 => ?_)
      ·
       refine W.skip (qs ?_)
       refine W.condT rfl ?_
       refine W.seq (W.region ?_)
       refine pE rfl ?_
       refine WO.nil (qs (W.ret (qbRet (qsRet ?_))))
       refine QF.ret0 trivial rfl ?_
       simp only [norm, oneA, nodeErr, kidsOf, zeroV] at *; grind
      ·
       refine W.seq ?_
       apply regionB; (case hb => rfl)
       ·
        refine pE rfl ?_
        first | refine pE rfl ?_ | refine pR rfl rfl rfl rfl rfl ?_ | refine pB rfl rfl rfl rfl rfl rfl ?_
        iterate 2 refine pE rfl ?_
        apply splitJ; (case hj => rfl); (case hl => rfl)
        ·
         refine goG rfl rfl ?_
         refine pE rfl ?_
         refine goG rfl rfl ?_
         iterate 3 refine pE rfl ?_
         refine WO.nil ?_
         refine qv1 rfl rfl rfl
        ·
         iterate 2 refine skipT rfl rfl rfl rfl ?_
         iterate 2 refine pE rfl ?_
         refine WO.nil ?_
         refine qv1 rfl rfl rfl
       refine qs ?_
       refine condK rfl (fun h39 => ?_) (fun h39 => ?_)
       ·
        refine W.skip (qs ?_)
        refine W.condT rfl ?_
        refine W.seq (W.region ?_)
        refine pE rfl ?_
        refine WO.nil (qs (W.ret (qbRet (qsRet ?_))))
        refine QF.ret0 trivial rfl ?_
        simp only [norm, oneA, nodeErr, kidsOf, zeroV] at *; grind
       ·
        apply regionB; (case hb => rfl)
        ·
         refine pE rfl ?_
         first | refine pE rfl ?_ | refine pR rfl rfl rfl rfl rfl ?_ | refine pB rfl rfl rfl rfl rfl rfl ?_
         refine pu (build tab rfl rfl rfl rfl) rfl ?_
         iterate 2 refine pE rfl ?_
         apply splitJ; (case hj => rfl); (case hl => rfl)
         ·
          refine goG rfl rfl ?_
          refine pE rfl ?_
          refine goG rfl rfl ?_
          iterate 3 refine pE rfl ?_
          refine WO.nil ?_
          refine qv1 rfl rfl rfl
         ·
          iterate 2 refine skipT rfl rfl rfl rfl ?_
          iterate 2 refine pE rfl ?_
          refine WO.nil ?_
          refine qv1 rfl rfl rfl
        refine qs ?_
        refine condK rfl (fun h39 => ?_) (fun h39 => ?_)
        ·
         refine W.seq (W.region ?_)
         refine pE rfl ?_
         refine WO.nil (qs (W.ret (qbRet (qsRet ?_))))
         refine QF.ret0 trivial rfl ?_
         simp only [norm, oneA, nodeErr, kidsOf, zeroV] at *; grind
        ·
         refine W.seq (W.region ?_)
         iterate 2 refine pE rfl ?_
         refine WO.nil (qs ?_)
         refine W.condF rfl ?_
         refine W.seq ?_
         apply regionB; (case hb => rfl)
         ·
          iterate 2 refine pE rfl ?_
          iterate 4 refine skipT rfl rfl rfl rfl ?_
          iterate 2 refine pE rfl ?_
          refine WO.nil ?_
          refine qv1 rfl rfl rfl
         refine qs ?_
         refine condK rfl (fun h65 => ?_) (fun h65 => ?_)
         ·
          refine W.seq (W.region ?_)
          refine pE rfl ?_
          refine WO.nil (qs (W.ret (qbRet (qsRet ?_))))
          refine QF.ret0 trivial rfl ?_
          simp only [norm, oneA, nodeErr, kidsOf, zeroV] at *; grind
         ·
          refine W.seq ?_
          apply regionB; (case hb => rfl)
          ·
           refine pE rfl ?_
           first | refine pE rfl ?_ | refine pR rfl rfl rfl rfl rfl ?_ | refine pB rfl rfl rfl rfl rfl rfl ?_
           iterate 2 refine pE rfl ?_
           apply splitJ; (case hj => rfl); (case hl => rfl)
           ·
            refine goG rfl rfl ?_
            refine pE rfl ?_
            refine goG rfl rfl ?_
            first | refine pE rfl ?_ | refine pR rfl rfl rfl rfl rfl ?_ | refine pB rfl rfl rfl rfl rfl rfl ?_
            refine goG rfl rfl ?_
            refine pu (puCall rfl rfl rfl (arity_fn ..) rfl) rfl ?_
            refine goG rfl rfl ?_
            iterate 3 refine pE rfl ?_
            refine WO.nil ?_
            refine qv1 rfl rfl rfl
           ·
            iterate 4 refine skipT rfl rfl rfl rfl ?_
            iterate 2 refine pE rfl ?_
            refine WO.nil ?_
            refine qv1 rfl rfl rfl
          refine qs ?_
          refine condK rfl (fun h73 => ?_) (fun h73 => ?_)
          ·
           refine W.seq (W.region ?_)
           refine pE rfl ?_
           refine WO.nil (qs (W.ret (qbRet (qsRet ?_))))
           refine QF.ret0 trivial rfl ?_
           simp only [norm, oneA, nodeErr, kidsOf, zeroV] at *; grind
          ·
           refine W.seq ?_
           apply regionB; (case hb => rfl)
           ·
            refine pE rfl ?_
            first | refine pE rfl ?_ | refine pR rfl rfl rfl rfl rfl ?_ | refine pB rfl rfl rfl rfl rfl rfl ?_
            iterate 2 refine pE rfl ?_
            apply splitJ; (case hj => rfl); (case hl => rfl)
            ·
             refine goG rfl rfl ?_
             refine pE rfl ?_
             refine goG rfl rfl ?_
             first | refine pE rfl ?_ | refine pR rfl rfl rfl rfl rfl ?_ | refine pB rfl rfl rfl rfl rfl rfl ?_
             refine goG rfl rfl ?_
             refine pu (puCall rfl rfl rfl (arity_fn ..) rfl) rfl ?_
             refine goG rfl rfl ?_
             refine pE rfl ?_
             refine goG rfl rfl ?_
             iterate 3 refine pE rfl ?_
             refine WO.nil ?_
             refine qv1 rfl rfl rfl
            ·
             iterate 5 refine skipT rfl rfl rfl rfl ?_
             iterate 2 refine pE rfl ?_
             refine WO.nil ?_
             refine qv1 rfl rfl rfl
           refine qs ?_
           refine condK rfl (fun h83 => ?_) (fun h83 => ?_)
           ·
            refine W.seq (W.region ?_)
            refine pE rfl ?_
            refine WO.nil (qs (W.ret (qbRet (qsRet ?_))))
            refine QF.ret0 trivial rfl ?_
            simp only [norm, oneA, nodeErr, kidsOf, zeroV] at *; grind
           ·
            refine W.skip (qbN (qs (W.seq (W.region ?_))))
            refine pE rfl ?_
            refine WO.nil (qs (W.ret ?_))
            refine QF.ret0 trivial rfl ?_
            simp only [norm, oneA, nodeErr, kidsOf, zeroV] at *; grind
theorem nodes_fn : ∀ (e : Ex), Does Tryz.prog 77 [.ag e.c] (.d (.v (.int .i64 (nodesErr e)))) 0 := by
 refine Ex.ind fun e ih => ?_
 have hq := nodesErr_eq e
 refine Does.of_W (n := 25) (ts := [2]) Tryz.func77 (by kernel_rfl) rfl Tryz.ntmps77 Tryz.results77 rfl rfl fun C hC hG => ?_
 refine W.seq (W.region ?_)
 refine boxR rfl rfl rfl ?_
 refine pE rfl ?_
 refine WO.nil (qs ?_)
 iterate 2 refine W.seq ?_
 refine W.region ?_
 first | refine pE rfl ?_ | refine pR rfl rfl rfl rfl rfl ?_ | refine pB rfl rfl rfl rfl rfl rfl ?_
 refine pu (puCall rfl rfl rfl (node_fn ..) rfl) rfl ?_
 refine pE rfl ?_
 refine WO.nil (qs (W.seq (W.region ?_)))
 iterate 2 refine pE rfl ?_
 refine WO.nil (qs ?_)
 refine condK rfl (fun h10 => ?_) (fun h10 => ?_)
 ·
  rw [if_pos (by simpa using h10)] at hq
  refine W.seq (W.region ?_)
  iterate 2 refine pE rfl ?_
  refine WO.nil (qs (W.ret (qsRet ?_)))
  refine QF.ret0 trivial rfl ?_
  rw [hq]; rfl
 ·
  rw [if_neg (by simpa using h10)] at hq
  refine W.skip (qs ?_)
  iterate 2 refine W.seq ?_
  refine W.region ?_
  refine pE rfl ?_
  first | refine pE rfl ?_ | refine pR rfl rfl rfl rfl rfl ?_ | refine pB rfl rfl rfl rfl rfl rfl ?_
  iterate 2 refine pE rfl ?_
  refine WO.nil (qs (W.block ?_))
  refine W.len (t := 13) rfl rfl (fun hlen => ?_)
  try simp only [List.length_map, Ex.kc_len] at hlen
  refine W.loopR (ι := {x : Nat // match x with | k => k ≤ e.kids.length ∧ nodesErrL (e.kids.drop k) = nodesErrL e.kids})
   (fun x => match x.1 with | k => [(15, .d (.v (.int .i64 ((k : Nat) : Int))))]) [(13, _), (14, _)]
   (fun x => match x.1 with | k => []) [] [] 0 (fun x => match x.1 with | k => e.kids.length - k)
   [] ⟨0, ?_⟩ rfl ?_ ⟨rfl, rfl, rfl, rfl, trivial⟩ ?_ trivial rfl ?_
  · first | exact ⟨Nat.zero_le _, rfl⟩ | exact trivial | simp
  · repeat' first | exact trivial | refine ⟨rfl, ?_⟩ | refine ⟨step_nat (by assumption) (by assumption), ?_⟩
  · repeat' first | exact trivial | refine ⟨rfl, ?_⟩ | refine ⟨step_nat (by assumption) (by assumption), ?_⟩
  rintro ⟨k, hk, hI⟩
  show W _ _ _ _ _ ⟨[(15, .d (.v (.int .i64 ((k : Nat) : Int)))), (13, _), (14, _)], [], [], 0⟩
  refine W.seq (W.region ?_)
  refine pE rfl ?_
  refine WO.nil (qs (W.seq ?_))
  refine eachR (l := e.kids) (k := k) rfl (by simp [Ex.kc_len, bytes_len]) hk (fun x hx hd hlt => ?_) (fun he hd => ?_)
  ·
   rw [hd] at hI
   simp only [nodesErrL] at hI
   refine W.skip (qs (W.seq (W.block (W.seq (W.region ?_)))))
   refine pu (indexAddr tab rfl rfl rfl rfl rfl rfl (Int.natCast_nonneg _) (Ex.kc_idx hx) rfl) rfl ?_
   first | refine pE rfl ?_ | refine pR rfl rfl rfl rfl rfl ?_ | refine pB rfl rfl rfl rfl rfl rfl ?_
   refine allocR tab rfl rfl rfl ?_
   refine storeR tab rfl rfl rfl rfl rfl rfl rfl rfl ?_
   refine WO.nil (qs (W.seq (W.region ?_)))
   first | refine pE rfl ?_ | refine pR rfl rfl rfl rfl rfl ?_ | refine pB rfl rfl rfl rfl rfl rfl ?_
   refine pu (puCall rfl rfl rfl (ih x (List.mem_of_getElem? hx)) rfl) rfl ?_
   refine pE rfl ?_
   refine WO.nil (qs (W.seq (W.region ?_)))
   iterate 2 refine pE rfl ?_
   refine WO.nil (qs ?_)
   refine condK rfl (fun h22 => ?_) (fun h22 => ?_)
   ·
    rw [if_pos (by simpa using h22)] at hI
    refine W.seq (W.region ?_)
    iterate 2 refine pE rfl ?_
    refine WO.nil (qs (W.ret (qbRet (qsRet (qlRet (qbRet (qsRet ?_)))))))
    refine QF.ret0 trivial rfl ?_
    rw [hq, ← hI]; rfl
   ·
    rw [if_neg (by simpa using h22)] at hI
    refine W.skip (qbN (qs (W.region ?_)))
    iterate 2 refine pE rfl ?_
    refine WO.nil ?_
    refine W.endR [] ⟨k + 1, ?_⟩ ?_ rfl ?_ ⟨rfl, rfl, rfl, rfl, trivial⟩ ?_ trivial rfl
    · exact ⟨hlt, hI⟩
    · dsimp only; omega
    · repeat' first | exact trivial | refine ⟨rfl, ?_⟩ | refine ⟨step_nat (by assumption) (by assumption), ?_⟩
    · repeat' first | exact trivial | refine ⟨rfl, ?_⟩ | refine ⟨step_nat (by assumption) (by assumption), ?_⟩
  ·
   rw [hd] at hI
   simp only [nodesErrL] at hI
   refine W.exit (qsExit (qlExit (qbExit (qs (W.seq (W.region ?_))))))
   refine pE rfl ?_
   refine WO.nil (qs (W.ret ?_))
   refine QF.ret0 trivial rfl ?_
   rw [hq, ← hI]; rfl
theorem rnodes_fn : ∀ (e : Ex), Does Tryz.prog 45 [.ag e.c] (.d (.v (.int .i64 (nodesErr e)))) 0 := by
 refine Ex.ind fun e ih => ?_
 have hq := nodesErr_eq e
 refine Does.of_W (n := 25) (ts := [2]) Tryz.func45 (by kernel_rfl) rfl Tryz.ntmps45 Tryz.results45 rfl rfl fun C hC hG => ?_
 refine W.seq (W.region ?_)
 refine boxR rfl rfl rfl ?_
 refine pE rfl ?_
 refine WO.nil (qs (W.seq (W.region ?_)))
 first | refine pE rfl ?_ | refine pR rfl rfl rfl rfl rfl ?_ | refine pB rfl rfl rfl rfl rfl rfl ?_
 refine pu (puCall rfl rfl rfl (rnode_fn ..) rfl) rfl ?_
 refine pE rfl ?_
 refine WO.nil (qs ?_)
 iterate 2 refine W.seq ?_
 refine W.region ?_
 refine pE rfl ?_
 refine WO.nil (qs (W.block ?_))
 refine lenBox (g := 0) (j := 5) rfl rfl (fun hlen => ?_)
 rw [Ex.kc_len] at hlen
 refine W.loopR (ι := {x : Nat × Int // match x with | (k, x') => k ≤ e.kids.length ∧ nodesErr e = (if x' ≠ 0 then x' else nodesErrL (e.kids.drop k))})
  (fun x => match x.1 with | (k, x') => [(1, .ptr 0 0), (3, .d (.v (.int .i64 (x')))), (4, .d (.v (.int .i64 ((k : Nat) : Int))))]) []
  (fun x => match x.1 with | (k, x') => []) [(0, _)] [] 1 (fun x => match x.1 with | (k, x') => e.kids.length - k)
  [0] ⟨(0, nodeErr e), ?_⟩ rfl ?_ trivial ?_ ⟨rfl, rfl, trivial⟩ rfl ?_
 · exact ⟨Nat.zero_le _, hq⟩
 · repeat' first | exact trivial | refine ⟨rfl, ?_⟩ | refine ⟨step_nat (by assumption) (by assumption), ?_⟩
 · repeat' first | exact trivial | refine ⟨rfl, ?_⟩ | refine ⟨step_nat (by assumption) (by assumption), ?_⟩
 rintro ⟨⟨k, x'⟩, hk, hI⟩
 show W _ _ _ _ _ ⟨[(1, .ptr 0 0), (3, .d (.v (.int .i64 (x')))), (4, .d (.v (.int .i64 ((k : Nat) : Int))))], [(0, _)], [], 1⟩
 iterate 2 refine W.seq ?_
 apply regionB; (case hb => rfl)
 ·
  iterate 2 refine pE rfl ?_
  first | refine pE rfl ?_ | refine pR rfl rfl rfl rfl rfl ?_ | refine pB rfl rfl rfl rfl rfl rfl ?_
  iterate 3 refine pE rfl ?_
  apply splitJ; (case hj => rfl); (case hl => rfl)
  ·
   refine goG rfl rfl ?_
   refine pE rfl ?_
   refine goG rfl rfl ?_
   iterate 2 refine pE rfl ?_
   refine WO.nil ?_
   refine qv1 rfl rfl rfl
  ·
   iterate 2 refine skipT rfl rfl rfl rfl ?_
   refine pE rfl ?_
   refine WO.nil ?_
   refine qv1 rfl rfl rfl
 refine qs ?_
 refine condK rfl (fun h15 => ?_) (fun h15 => ?_)
 ·
  have h15 : k < e.kids.length ∧ x' = 0 := by simpa [Ex.kc_len] using h15
  have hlt := h15.1
  obtain ⟨x, hx, hd⟩ := exAt hlt
  rw [hd, h15.2] at hI
  simp only [nodesErrL, ne_eq, not_true_eq_false, if_false] at hI
  refine W.skip (qs (W.seq (W.block (W.region ?_))))
  refine pE rfl ?_
  first | refine pE rfl ?_ | refine pR rfl rfl rfl rfl rfl ?_ | refine pB rfl rfl rfl rfl rfl rfl ?_
  refine pE rfl ?_
  refine pu (indexAddr tab rfl rfl rfl rfl rfl rfl (Int.natCast_nonneg _) (Ex.kc_idx hx) rfl) rfl ?_
  first | refine pE rfl ?_ | refine pR rfl rfl rfl rfl rfl ?_ | refine pB rfl rfl rfl rfl rfl rfl ?_
  refine pu (puCall rfl rfl rfl (ih x (List.mem_of_getElem? hx)) rfl) rfl ?_
  refine pE rfl ?_
  refine WO.nil (qbN (qs (W.region ?_)))
  iterate 3 refine pE rfl ?_
  refine WO.nil ?_
  refine W.endR [0] ⟨(k + 1, nodesErr x), ?_⟩ ?_ rfl ?_ trivial ?_ ⟨rfl, rfl, trivial⟩ rfl
  · exact ⟨hlt, hI⟩
  · dsimp only; omega
  · repeat' first | exact trivial | refine ⟨rfl, ?_⟩ | refine ⟨step_nat (by assumption) (by assumption), ?_⟩
  · repeat' first | exact trivial | refine ⟨rfl, ?_⟩ | refine ⟨step_nat (by assumption) (by assumption), ?_⟩
 ·
  have h15 : k < e.kids.length → x' ≠ 0 := by simpa [Ex.kc_len] using h15
  have hfin : nodesErr e = x' := by
   rw [hI]
   rcases Nat.lt_or_ge k e.kids.length with h | h
   · rw [if_pos (h15 h)]
   · rw [dropEnd h]; simp only [nodesErrL]; split <;> simp_all
  refine W.exit (qsExit (qlExit (qbExit (qs (W.seq (W.region ?_))))))
  iterate 2 refine pE rfl ?_
  refine WO.nil (qs (W.ret ?_))
  refine QF.ret0 trivial rfl ?_
  rw [hfin]; rfl
theorem expr_fn (e : Ex) : Does Tryz.prog 39 [.ag e.c] (.d (.v (.int .i64 (exprErr e)))) 0 := by
 have hm := msr_spec e 0 (by omega) (by omega)
 refine Does.of_W (n := 18) (ts := [2]) Tryz.func39 (by kernel_rfl) rfl Tryz.ntmps39 Tryz.results39 rfl rfl fun C hC hG => ?_
 refine W.seq (W.region ?_)
 refine boxR rfl rfl rfl ?_
 refine pE rfl ?_
 refine WO.nil (qs (W.seq (W.region ?_)))
 first | refine pE rfl ?_ | refine pR rfl rfl rfl rfl rfl ?_ | refine pB rfl rfl rfl rfl rfl rfl ?_
 refine pu (puCall rfl rfl rfl (measure_fn e 0 (by omega) (by omega)) rfl) rfl ?_
 iterate 5 refine pE rfl ?_
 refine WO.nil (qs (W.seq (W.block (W.seq (W.region ?_)))))
 iterate 3 refine pE rfl ?_
 refine WO.nil (qs ?_)
 refine condK rfl (fun h10 => ?_) (fun h10 => ?_)
 ·
  refine W.seq (W.region ?_)
  refine pE rfl ?_
  refine WO.nil (qs (W.ret (qbRet (qsRet ?_))))
  refine QF.ret0 trivial rfl ?_
  simp only [norm, oneA, exprErr] at *; grind
 ·
  refine W.seq (W.region ?_)
  iterate 3 refine pE rfl ?_
  refine WO.nil (qs ?_)
  refine condK rfl (fun h13 => ?_) (fun h13 => ?_)
  ·
   refine W.seq (W.region ?_)
   refine pE rfl ?_
   refine WO.nil (qs (W.ret (qbRet (qsRet ?_))))
   refine QF.ret0 trivial rfl ?_
   simp only [norm, oneA, exprErr] at *; grind
  ·
   refine W.skip (qbN (qs (W.seq (W.region ?_))))
   first | refine pE rfl ?_ | refine pR rfl rfl rfl rfl rfl ?_ | refine pB rfl rfl rfl rfl rfl rfl ?_
   refine pu (puCall rfl rfl rfl (nodes_fn ..) rfl) rfl ?_
   refine pE rfl ?_
   refine WO.nil (qs (W.ret ?_))
   refine QF.ret0 trivial rfl ?_
   simp only [norm, oneA, exprErr] at *; grind
theorem rexpr_fn (e : Ex) : Does Tryz.prog 19 [.ag e.c] (.d (.v (.int .i64 (exprErr e)))) 0 := by
 have hm := count_spec e 200 (by omega)
 refine Does.of_W (n := 11) (ts := [2]) Tryz.func19 (by kernel_rfl) rfl Tryz.ntmps19 Tryz.results19 rfl rfl fun C hC hG => ?_
 refine W.seq (W.region ?_)
 refine boxR rfl rfl rfl ?_
 refine pE rfl ?_
 refine WO.nil (qs ?_)
 iterate 2 refine W.seq ?_
 refine W.region ?_
 first | refine pE rfl ?_ | refine pR rfl rfl rfl rfl rfl ?_ | refine pB rfl rfl rfl rfl rfl rfl ?_
 refine pu (puCall rfl rfl rfl (count_fn e 200 (by omega) (by omega)) rfl) rfl ?_
 refine pE rfl ?_
 refine WO.nil (qs ?_)
 refine condK rfl (fun h5 => ?_) (fun h5 => ?_)
 ·
  refine W.seq (W.region ?_)
  refine pE rfl ?_
  refine WO.nil (qs (W.ret (qsRet ?_)))
  refine QF.ret0 trivial rfl ?_
  simp only [norm, oneA, exprErr] at *; grind
 ·
  have h5 : count e 200 ≤ 200 := by simpa using h5
  have hc : cnt e ≤ 200 := by omega
  refine W.skip (qs ?_)
  iterate 2 refine W.seq ?_
  refine W.region ?_
  first | refine pE rfl ?_ | refine pR rfl rfl rfl rfl rfl ?_ | refine pB rfl rfl rfl rfl rfl rfl ?_
  refine pu (puCall rfl rfl rfl (levels_fn e hc) rfl) rfl ?_
  refine pE rfl ?_
  refine WO.nil (qs ?_)
  refine condK rfl (fun h8 => ?_) (fun h8 => ?_)
  ·
   refine W.seq (W.region ?_)
   refine pE rfl ?_
   refine WO.nil (qs (W.ret (qsRet ?_)))
   refine QF.ret0 trivial rfl ?_
   simp only [norm, oneA, exprErr] at *; grind
  ·
   refine W.skip (qs (W.seq (W.region ?_)))
   first | refine pE rfl ?_ | refine pR rfl rfl rfl rfl rfl ?_ | refine pB rfl rfl rfl rfl rfl rfl ?_
   refine pu (puCall rfl rfl rfl (rnodes_fn ..) rfl) rfl ?_
   refine pE rfl ?_
   refine WO.nil (qs (W.ret ?_))
   refine QF.ret0 trivial rfl ?_
   simp only [norm, oneA, exprErr] at *; grind
end Go.Proofs.YtifeonoehfffmaaGreatDoor
namespace Go.Proofs.YtifeonoehfffmaaGreatDoor
open Go.Ab Go.Tb
set_option maxRecDepth 10000
attribute [local irreducible] W WO Pu QS QB QL QF QV QV1 CH QE
end Go.Proofs.YtifeonoehfffmaaGreatDoor
namespace Go.Proofs.YtifeonoehfffmaaGreatDoor
open Go.Ab Go.Tb
set_option maxRecDepth 10000
attribute [local irreducible] W WO Pu QS QB QL QF QV QV1 CH QE
end Go.Proofs.YtifeonoehfffmaaGreatDoor
namespace Go.Proofs.YtifeonoehfffmaaGreatDoor
open Go.Ab Go.Tb
set_option maxRecDepth 10000
attribute [local irreducible] W WO Pu QS QB QL QF QV QV1 CH QE
theorem add_fn (ks : List ByteArray) (s : ByteArray) (h : ks.length ≤ 1000) : DoesB Tryz.prog 124 [.ptr 0 0, .d (.v (.string s))] [[.own 1 (ks.map sc)]] 1 (.d (.v (.int .i64 (addErr ks s)))) [[.own 1 ((addTo ks s).map sc)]] 1 := by
 refine DoesB.of_V tab (n := 24) (rs := [.tmp 4]) Tryz.func124 (by kernel_rfl) rfl Tryz.ntmps124 Tryz.results124 rfl rfl fun C hC hG => ?_
 refine W.seq (W.region ?_)
 refine pE rfl ?_
 refine WO.nil (qs ?_)
 iterate 2 refine W.seq ?_
 refine W.region ?_
 refine pE rfl ?_
 refine pu (puCall rfl rfl rfl (identifier_fn ..) rfl) rfl ?_
 refine pE rfl ?_
 refine WO.nil (qs ?_)
 refine condK rfl (fun h7 => ?_) (fun h7 => ?_)
 ·
  refine W.seq (W.region ?_)
  refine pE rfl ?_
  refine WO.nil (qs (W.ret (qsRet ?_)))
  refine QB1.end tab [1] trivial rfl rfl rfl rfl ?_ ?_
  ·
   refine ⟨?_, trivial⟩
   have h6 : addTo ks s = ks := by grind [addTo, addErr]
   rw [h6]; rfl
  simp only [ren, oneA, A.d.injEq, D.v.injEq, Value.int.injEq, true_and]; grind [addErr]
 ·
  refine W.skip (qs ?_)
  iterate 2 refine W.seq ?_
  refine W.region ?_
  iterate 3 refine pE rfl ?_
  first | refine pE rfl ?_ | refine pR rfl rfl rfl rfl rfl ?_ | refine pB rfl rfl rfl rfl rfl rfl ?_
  refine pE rfl ?_
  refine pu (puCall rfl rfl rfl (contains_fn ..) rfl) rfl ?_
  refine WO.nil (qs ?_)
  refine condK rfl (fun h13 => ?_) (fun h13 => ?_)
  ·
   refine W.seq (W.region ?_)
   refine pE rfl ?_
   refine WO.nil (qs (W.ret (qsRet ?_)))
   refine QB1.end tab [1] trivial rfl rfl rfl rfl ?_ ?_
   ·
    refine ⟨?_, trivial⟩
    have h6 : addTo ks s = ks := by grind [addTo, addErr]
    rw [h6]; rfl
   simp only [ren, oneA, A.d.injEq, D.v.injEq, Value.int.injEq, true_and]; grind [addErr]
  ·
   refine W.skip (qs (W.seq (W.region ?_)))
   iterate 4 refine pE rfl ?_
   first | refine pE rfl ?_ | refine pR rfl rfl rfl rfl rfl ?_ | refine pB rfl rfl rfl rfl rfl rfl ?_
   refine pE rfl ?_
   refine pu (buildV tab rfl rfl rfl rfl rfl rfl rfl rfl rfl) rfl ?_
   refine appendM tab rfl rfl rfl rfl rfl rfl rfl rfl rfl rfl (fun _ => rfl) (by show (ks.length + 1) * 16 ≤ _; omega) ?_
   iterate 2 refine pE rfl ?_
   refine storeR tab rfl rfl rfl rfl rfl rfl rfl rfl ?_
   refine WO.nil (qs (W.seq (W.region ?_)))
   refine pE rfl ?_
   refine WO.nil (qs (W.ret ?_))
   refine QB1.end tab [2] trivial rfl rfl rfl rfl ?_ ?_
   ·
    refine ⟨?_, trivial⟩
    have h6 : addTo ks s = ks ++ [s] := by grind [addTo, addErr]
    rw [h6]; rfl
   simp only [ren, oneA, A.d.injEq, D.v.injEq, Value.int.injEq, true_and]; grind [addErr]
theorem allNames_fn (ks l : List ByteArray) (h : ks.length + l.length ≤ 1000) : DoesB Tryz.prog 125 [.ptr 0 0, .d (.sl (l.map sc))] [[.own 1 (ks.map sc)]] 1 (.d (.v (.int .i64 (allErr ks l)))) [[.own 1 ((allTo ks l).map sc)]] 1 := by
 refine DoesB.of_V tab (n := 21) (rs := [.tmp 4]) Tryz.func125 (by kernel_rfl) rfl Tryz.ntmps125 Tryz.results125 rfl rfl fun C hC hG => ?_
 refine W.seq (W.region ?_)
 refine pE rfl ?_
 refine WO.nil (qs ?_)
 iterate 2 refine W.seq ?_
 refine W.region ?_
 iterate 3 refine pE rfl ?_
 refine WO.nil (qs (W.block ?_))
 refine W.len (t := 8) rfl rfl (fun hlen => ?_)
 try simp only [List.length_map, Ex.kc_len] at hlen
 refine W.loopR (ι := {x : Nat × List ByteArray // match x with | (k, ns) => k ≤ l.length ∧ allErr ns (l.drop k) = allErr ks l ∧ allTo ns (l.drop k) = allTo ks l ∧ ns.length ≤ ks.length + k})
  (fun x => match x.1 with | (k, ns) => [(0, .ptr 0 0), (10, .d (.v (.int .i64 ((k : Nat) : Int))))]) [(8, _), (9, _)]
  (fun x => match x.1 with | (k, ns) => [(0, [.own 1 (ns.map sc)])]) [] [1] 2 (fun x => match x.1 with | (k, ns) => l.length - k)
  [0, 1] ⟨(0, ks), ?_⟩ rfl ?_ ⟨rfl, rfl, rfl, rfl, trivial⟩ ?_ trivial rfl ?_
 · exact ⟨Nat.zero_le _, rfl, rfl, Nat.le_refl _⟩
 · repeat' first | exact trivial | refine ⟨rfl, ?_⟩ | refine ⟨step_nat (by assumption) (by assumption), ?_⟩
 · repeat' first | exact trivial | refine ⟨rfl, ?_⟩ | refine ⟨step_nat (by assumption) (by assumption), ?_⟩
 rintro ⟨⟨k, ns⟩, hk, hI, hJ, hL⟩
 show W _ _ _ _ _ ⟨[(0, .ptr 0 0), (10, .d (.v (.int .i64 ((k : Nat) : Int)))), (8, _), (9, _)], [(0, [.own 1 (ns.map sc)])], [1], 2⟩
 refine W.seq (W.region ?_)
 refine pE rfl ?_
 refine WO.nil (qs (W.seq ?_))
 refine eachR (l := l) (k := k) rfl (by simp [Ex.kc_len, bytes_len]) hk (fun x hx hd hlt => ?_) (fun he hd => ?_)
 ·
  rw [hd] at hI hJ
  simp only [allErr, allTo] at hI hJ
  refine W.skip (qs (W.seq (W.block (W.seq (W.region ?_)))))
  refine pu (indexAddr tab rfl rfl rfl rfl rfl rfl (Int.natCast_nonneg _) (idx_map hx) rfl) rfl ?_
  first | refine pE rfl ?_ | refine pR rfl rfl rfl rfl rfl ?_ | refine pB rfl rfl rfl rfl rfl rfl ?_
  refine pE rfl ?_
  refine WO.nil (qs (W.seq (W.region ?_)))
  iterate 2 refine pE rfl ?_
  refine callB [0] [1] rfl rfl rfl rfl rfl ((add_fn ns x (by omega))) rfl rfl (by rfl) (by rfl) rfl rfl rfl rfl ?_
  refine pE rfl ?_
  refine WO.nil (qs (W.seq (W.region ?_)))
  iterate 2 refine pE rfl ?_
  refine WO.nil (qs ?_)
  refine condK rfl (fun h18 => ?_) (fun h18 => ?_)
  ·
   have h18 : addErr ns x ≠ 0 := by simpa using h18
   rw [if_pos h18] at hI hJ
   refine W.seq (W.region ?_)
   iterate 2 refine pE rfl ?_
   refine WO.nil (qs (W.ret (qbRet (qsRet (qlRet (qbRet (qsRet ?_)))))))
   refine QB1.end tab [3] trivial rfl rfl rfl rfl ?_ ?_
   ·
    refine ⟨?_, trivial⟩
    have hto : addTo ns x = allTo ks l := by rw [← hJ]; simp [addTo, h18]
    rw [← hto]; rfl
   rw [← hI]; rfl
  ·
   have h18 : addErr ns x = 0 := by simpa using h18
   rw [if_neg (by simp [h18])] at hI hJ
   have hto : addTo ns x = ns ++ [x] := by simp [addTo, h18]
   refine W.skip (qbN (qs (W.region ?_)))
   iterate 2 refine pE rfl ?_
   refine WO.nil ?_
   refine W.endR [0, 3] ⟨(k + 1, addTo ns x), ?_⟩ ?_ rfl ?_ ⟨rfl, rfl, rfl, rfl, trivial⟩ ?_ trivial rfl
   ·
    refine ⟨hlt, ?_, ?_, ?_⟩
    · rw [hto]; exact hI
    · rw [hto]; exact hJ
    · rw [hto]; simp; omega
   · dsimp only; omega
   · repeat' first | exact trivial | refine ⟨rfl, ?_⟩ | refine ⟨step_nat (by assumption) (by assumption), ?_⟩
   · repeat' first | exact trivial | refine ⟨rfl, ?_⟩ | refine ⟨step_nat (by assumption) (by assumption), ?_⟩
 ·
  rw [hd] at hI hJ
  simp only [allErr, allTo] at hI hJ
  refine W.exit (qsExit (qlExit (qbExit (qs (W.seq (W.region ?_))))))
  refine pE rfl ?_
  refine WO.nil (qs (W.ret ?_))
  refine QB1.end tab [1] trivial rfl rfl rfl rfl ?_ ?_
  ·
   refine ⟨?_, trivial⟩
   rw [← hJ]; rfl
  rw [← hI]; rfl
theorem size_fn (n m : Int) : Does Tryz.prog 92 [.d (.v (.int .i64 n)), .d (.v (.int .i64 m))] (.d (.v (.int .i64 (sizeErr n m)))) 0 := by
 refine Does.of_W (n := 12) (ts := [4]) Tryz.func92 (by kernel_rfl) rfl Tryz.ntmps92 Tryz.results92 rfl rfl fun C hC hG => ?_
 refine W.seq (W.region ?_)
 refine pE rfl ?_
 refine WO.nil (qs (W.seq (W.block (W.seq (W.region ?_)))))
 iterate 4 refine pE rfl ?_
 refine WO.nil (qs ?_)
 refine condK rfl (fun h5 => ?_) (fun h5 => ?_)
 ·
  refine W.seq (W.region ?_)
  refine pE rfl ?_
  refine WO.nil (qs (W.ret (qbRet (qsRet ?_))))
  refine QF.ret0 trivial rfl ?_
  simp only [norm, oneA] at *; grind [sizeErr]
 ·
  refine W.seq (W.region ?_)
  iterate 3 refine pE rfl ?_
  refine WO.nil (qs ?_)
  refine condK rfl (fun h9 => ?_) (fun h9 => ?_)
  ·
   refine W.seq (W.region ?_)
   refine pE rfl ?_
   refine WO.nil (qs (W.ret (qbRet (qsRet ?_))))
   refine QF.ret0 trivial rfl ?_
   simp only [norm, oneA] at *; grind [sizeErr]
  ·
   refine W.skip (qbN (qs (W.seq (W.region ?_))))
   refine pE rfl ?_
   refine WO.nil (qs (W.ret ?_))
   refine QF.ret0 trivial rfl ?_
   simp only [norm, oneA] at *; grind [sizeErr]
theorem columns_fn (l : List ByteArray) (m : Int) : Does Tryz.prog 95 [.d (.sl (l.map sc)), .d (.v (.int .i64 m))] (.d (.v (.int .i64 (columnsErr l m)))) 0 := by
 refine Does.of_W (n := 16) (ts := [4]) Tryz.func95 (by kernel_rfl) rfl Tryz.ntmps95 Tryz.results95 rfl rfl fun C hC hG => ?_
 refine W.seq (W.region ?_)
 refine pE rfl ?_
 refine WO.nil (qs ?_)
 iterate 2 refine W.seq ?_
 refine W.region ?_
 iterate 3 refine pE rfl ?_
 refine pu (puCall rfl rfl rfl (size_fn ..) rfl) rfl ?_
 refine pE rfl ?_
 refine WO.nil (qs (W.seq (W.region ?_)))
 iterate 2 refine pE rfl ?_
 refine WO.nil (qs ?_)
 refine condK rfl (fun h12 => ?_) (fun h12 => ?_)
 ·
  refine W.seq (W.region ?_)
  iterate 2 refine pE rfl ?_
  refine WO.nil (qs (W.ret (qsRet ?_)))
  refine QF.ret0 trivial rfl ?_
  simp only [norm, oneA, back] at *; grind [columnsErr]
 ·
  have h12 : sizeErr l.length m = 0 := by simpa using h12
  have hl16 : l.length ≤ 16 := by unfold sizeErr at h12; split at h12; omega; split at h12 <;> omega
  refine W.skip (qs (W.seq (W.region ?_)))
  refine allocR tab rfl rfl rfl ?_
  refine WO.nil (qs (W.seq (W.region ?_)))
  refine ownNilBoxO 0 0 rfl rfl rfl ?_
  refine pE rfl ?_
  refine callB [0] [1] rfl rfl rfl rfl rfl ((allNames_fn [] l (by simp; omega))) rfl rfl (by rfl) (by rfl) rfl rfl rfl rfl ?_
  refine pE rfl ?_
  refine WO.nil (qs (W.ret ?_))
  refine QF.ret0 trivial rfl ?_
  simp only [norm, oneA, back] at *; grind [columnsErr]
end Go.Proofs.YtifeonoehfffmaaGreatDoor
namespace Go.Proofs.YtifeonoehfffmaaGreatDoor
open Go.Ab Go.Tb
set_option maxRecDepth 10000
attribute [local irreducible] W WO Pu QS QB QL QF QV QV1 CH QE
theorem zero_fn (e : Ex) : Does Tryz.prog 123 [.ag e.c] (.d (.v (.bool (zeroE e)))) 0 := by
 refine Does.of_W (n := 23) (ts := [2]) Tryz.func123 (by kernel_rfl) rfl Tryz.ntmps123 Tryz.results123 rfl rfl fun C hC hG => ?_
 have hkl := Ex.kc_len e
 refine W.seq (W.region ?_)
 refine boxR rfl rfl rfl ?_
 refine pE rfl ?_
 refine WO.nil (qs (W.seq ?_))
 apply regionB; (case hb => rfl)
 ·
  refine pE rfl ?_
  first | refine pE rfl ?_ | refine pR rfl rfl rfl rfl rfl ?_ | refine pB rfl rfl rfl rfl rfl rfl ?_
  iterate 2 refine pE rfl ?_
  apply splitJ; (case hj => rfl); (case hl => rfl)
  ·
   refine goG rfl rfl ?_
   refine pE rfl ?_
   refine goG rfl rfl ?_
   first | refine pE rfl ?_ | refine pR rfl rfl rfl rfl rfl ?_ | refine pB rfl rfl rfl rfl rfl rfl ?_
   refine goG rfl rfl ?_
   iterate 3 refine pE rfl ?_
   apply splitJ; (case hj => rfl); (case hl => rfl)
   ·
    refine goG rfl rfl ?_
    refine pE rfl ?_
    refine goG rfl rfl ?_
    first | refine pE rfl ?_ | refine pR rfl rfl rfl rfl rfl ?_ | refine pB rfl rfl rfl rfl rfl rfl ?_
    refine goG rfl rfl ?_
    refine pu (build tab rfl rfl rfl rfl) rfl ?_
    refine goG rfl rfl ?_
    iterate 3 refine pE rfl ?_
    apply splitJ; (case hj => rfl); (case hl => rfl)
    ·
     refine goG rfl rfl ?_
     refine pE rfl ?_
     refine goG rfl rfl ?_
     first | refine pE rfl ?_ | refine pR rfl rfl rfl rfl rfl ?_ | refine pB rfl rfl rfl rfl rfl rfl ?_
     refine goG rfl rfl ?_
     refine pE rfl ?_
     refine goG rfl rfl ?_
     iterate 3 refine pE rfl ?_
     refine WO.nil ?_
     refine qv1 rfl rfl rfl
    ·
     iterate 4 refine skipT rfl rfl rfl rfl ?_
     iterate 2 refine pE rfl ?_
     refine WO.nil ?_
     refine qv1 rfl rfl rfl
   ·
    iterate 4 refine skipT rfl rfl rfl rfl ?_
    iterate 2 refine pE rfl ?_
    iterate 4 refine skipT rfl rfl rfl rfl ?_
    iterate 2 refine pE rfl ?_
    refine WO.nil ?_
    refine qv1 rfl rfl rfl
  ·
   iterate 3 refine skipT rfl rfl rfl rfl ?_
   iterate 2 refine pE rfl ?_
   iterate 4 refine skipT rfl rfl rfl rfl ?_
   iterate 2 refine pE rfl ?_
   iterate 4 refine skipT rfl rfl rfl rfl ?_
   iterate 2 refine pE rfl ?_
   refine WO.nil ?_
   refine qv1 rfl rfl rfl
 refine qs (W.ret ?_)
 refine QF.ret0 trivial rfl ?_
 simp only [norm, oneA, zeroE, zeroV, hkl, Int.natCast_eq_zero]; grind
theorem uses1_fn (l : List Int) (s : Stp) : Does Tryz.prog 121 [.d (.sl (l.map ic)), .row (s.c.map A.d)] (.d (.v (.bool (l.any fun x => decide (s.op = x))))) 0 := by
 refine Does.of_W (n := 8) (ts := [3]) Tryz.func121 (by kernel_rfl) rfl Tryz.ntmps121 Tryz.results121 rfl rfl fun C hC hG => ?_
 refine W.seq (W.region ?_)
 refine pE rfl ?_
 refine WO.nil (qs (W.seq (W.region ?_)))
 iterate 2 refine pE rfl ?_
 first | refine pE rfl ?_ | refine pR rfl rfl rfl rfl rfl ?_ | refine pB rfl rfl rfl rfl rfl rfl ?_
 refine pu (puCall rfl rfl rfl (containsOp_fn l s.op) rfl) rfl ?_
 refine pE rfl ?_
 refine WO.nil (qs (W.ret ?_))
 refine QF.ret0 trivial rfl ?_
 rfl
theorem items_fn (l : List Itm) (h : l.length ≤ 16) : Does Tryz.prog 93 [.d (.sl (l.map Itm.c))] (.d (.v (.int .i64 (selErr [] l)))) 0 := by
 refine Does.of_W (n := 27) (ts := [2]) Tryz.func93 (by kernel_rfl) rfl Tryz.ntmps93 Tryz.results93 rfl rfl fun C hC hG => ?_
 refine W.seq (W.region ?_)
 refine pE rfl ?_
 refine WO.nil (qs (W.seq (W.region ?_)))
 refine allocR tab rfl rfl rfl ?_
 refine WO.nil (qs ?_)
 iterate 2 refine W.seq ?_
 refine W.region ?_
 iterate 3 refine pE rfl ?_
 refine WO.nil (qs (W.block ?_))
 refine ownNilBox 0 0 rfl rfl rfl ?_
 refine W.len (t := 8) rfl rfl (fun hlen => ?_)
 try simp only [List.length_map, Ex.kc_len] at hlen
 refine W.loopR (ι := {x : Nat × List ByteArray // match x with | (k, ns) => k ≤ l.length ∧ selErr ns (l.drop k) = selErr [] l ∧ ns.length ≤ k})
  (fun x => match x.1 with | (k, ns) => [(3, .ptr 0 0), (10, .d (.v (.int .i64 ((k : Nat) : Int))))]) [(8, _), (9, _)]
  (fun x => match x.1 with | (k, ns) => [(0, [.own 1 (ns.map sc)])]) [] [1] 2 (fun x => match x.1 with | (k, ns) => l.length - k)
  [0, 1] ⟨(0, []), ?_⟩ rfl ?_ ⟨rfl, rfl, rfl, rfl, trivial⟩ ?_ trivial rfl ?_
 · exact ⟨Nat.zero_le _, rfl, Nat.le_refl _⟩
 · repeat' first | exact trivial | refine ⟨rfl, ?_⟩ | refine ⟨step_nat (by assumption) (by assumption), ?_⟩
 · repeat' first | exact trivial | refine ⟨rfl, ?_⟩ | refine ⟨step_nat (by assumption) (by assumption), ?_⟩
 rintro ⟨⟨k, ns⟩, hk, hI, hL⟩
 show W _ _ _ _ _ ⟨[(3, .ptr 0 0), (10, .d (.v (.int .i64 ((k : Nat) : Int)))), (8, _), (9, _)], [(0, [.own 1 (ns.map sc)])], [1], 2⟩
 refine W.seq (W.region ?_)
 refine pE rfl ?_
 refine WO.nil (qs (W.seq ?_))
 refine eachR (l := l) (k := k) rfl (by simp [Ex.kc_len, bytes_len]) hk (fun x hx hd hlt => ?_) (fun he hd => ?_)
 ·
  rw [hd] at hI
  simp only [selErr] at hI
  refine W.skip (qs (W.seq (W.block (W.seq (W.region ?_)))))
  refine pu (indexAddr tab rfl rfl rfl rfl rfl rfl (Int.natCast_nonneg _) (idx_map hx) rfl) rfl ?_
  first | refine pE rfl ?_ | refine pR rfl rfl rfl rfl rfl ?_ | refine pB rfl rfl rfl rfl rfl rfl ?_
  refine allocR tab rfl rfl rfl ?_
  refine storeR tab rfl rfl rfl rfl rfl rfl rfl rfl ?_
  refine WO.nil (qs ?_)
  iterate 2 refine W.seq ?_
  refine W.region ?_
  refine pE rfl ?_
  first | refine pE rfl ?_ | refine pR rfl rfl rfl rfl rfl ?_ | refine pB rfl rfl rfl rfl rfl rfl ?_
  refine pu (puCall rfl rfl rfl (expr_fn x.e) rfl) rfl ?_
  refine pE rfl ?_
  refine WO.nil (qs (W.seq (W.region ?_)))
  iterate 2 refine pE rfl ?_
  refine WO.nil (qs ?_)
  refine condK rfl (fun h18 => ?_) (fun h18 => ?_)
  ·
   rw [if_pos (by simpa using h18)] at hI
   refine W.seq (W.region ?_)
   iterate 2 refine pE rfl ?_
   refine WO.nil (qs (W.ret (qsRet (qbRet (qsRet (qlRet (qbRet (qsRet ?_))))))))
   refine QF.ret0 trivial rfl ?_
   rw [← hI]; rfl
  ·
   rw [if_neg (by simpa using h18)] at hI
   refine W.skip (qs (W.seq (W.region ?_)))
   refine pE rfl ?_
   first | refine pE rfl ?_ | refine pR rfl rfl rfl rfl rfl ?_ | refine pB rfl rfl rfl rfl rfl rfl ?_
   refine callB [0] [1] rfl rfl rfl rfl rfl ((add_fn ns x.name (by omega))) rfl rfl (by rfl) (by rfl) rfl rfl rfl rfl ?_
   refine pE rfl ?_
   refine WO.nil (qs (W.seq (W.region ?_)))
   iterate 2 refine pE rfl ?_
   refine WO.nil (qs ?_)
   refine condK rfl (fun h24 => ?_) (fun h24 => ?_)
   ·
    have h24 : addErr ns x.name ≠ 0 := by simpa using h24
    rw [if_pos h24] at hI
    refine W.seq (W.region ?_)
    iterate 2 refine pE rfl ?_
    refine WO.nil (qs (W.ret (qbRet (qsRet (qlRet (qbRet (qsRet ?_)))))))
    refine QF.ret0 trivial rfl ?_
    rw [← hI]; rfl
   ·
    have h24 : addErr ns x.name = 0 := by simpa using h24
    rw [if_neg (by simp [h24])] at hI
    have hto : addTo ns x.name = ns ++ [x.name] := by simp [addTo, h24]
    refine W.skip (qbN (qs (W.region ?_)))
    iterate 2 refine pE rfl ?_
    refine WO.nil ?_
    refine W.endR [0, 4] ⟨(k + 1, addTo ns x.name), ?_⟩ ?_ rfl ?_ ⟨rfl, rfl, rfl, rfl, trivial⟩ ?_ trivial rfl
    ·
     refine ⟨hlt, ?_, ?_⟩
     · rw [hto]; exact hI
     · rw [hto]; simp; omega
    · dsimp only; omega
    · repeat' first | exact trivial | refine ⟨rfl, ?_⟩ | refine ⟨step_nat (by assumption) (by assumption), ?_⟩
    · repeat' first | exact trivial | refine ⟨rfl, ?_⟩ | refine ⟨step_nat (by assumption) (by assumption), ?_⟩
 ·
  rw [hd] at hI
  simp only [selErr] at hI
  refine W.exit (qsExit (qlExit (qbExit (qs (W.seq (W.region ?_))))))
  refine pE rfl ?_
  refine WO.nil (qs (W.ret ?_))
  refine QF.ret0 trivial rfl ?_
  rw [← hI]; rfl
theorem group_fn (s : Stp) : Does Tryz.prog 94 [.ag s.c] (.d (.v (.int .i64 (groupErr s)))) 0 := by
 refine Does.of_W (n := 77) (ts := [2]) Tryz.func94 (by kernel_rfl) rfl Tryz.ntmps94 Tryz.results94 rfl rfl fun C hC hG => ?_
 refine W.seq (W.region ?_)
 refine boxR rfl rfl rfl ?_
 refine pE rfl ?_
 refine WO.nil (qs (W.seq (W.block (W.seq ?_))))
 refine lenBox (g := 0) (j := 8) rfl rfl (fun hl1 => ?_)
 refine lenBox (g := 0) (j := 9) rfl rfl (fun hl2 => ?_)
 simp only [List.length_map, maxLen] at hl1 hl2
 refine W.region ?_
 refine pE rfl ?_
 first | refine pE rfl ?_ | refine pR rfl rfl rfl rfl rfl ?_ | refine pB rfl rfl rfl rfl rfl rfl ?_
 iterate 2 refine pE rfl ?_
 first | refine pE rfl ?_ | refine pR rfl rfl rfl rfl rfl ?_ | refine pB rfl rfl rfl rfl rfl rfl ?_
 iterate 4 refine pE rfl ?_
 refine WO.nil (qs ?_)
 refine condK rfl (fun h9 => ?_) (fun h9 => ?_)
 ·
  have h9 : s.cols.length + s.aggs.length = 0 := by have h9' := of_decide_eq_true h9; rw [wrap_zero (by omega) (by simp only [List.length_map]; omega)] at h9'; simp only [List.length_map] at h9'; omega
  refine W.seq (W.region ?_)
  refine pE rfl ?_
  refine WO.nil (qs (W.ret (qbRet (qsRet ?_))))
  refine QF.ret0 trivial rfl ?_
  simp only [norm, oneA, List.length_map] at *; grind [groupErr]
 ·
  have h9 : ¬ (s.cols.length + s.aggs.length = 0) := by have h9' := of_decide_eq_false h9; rw [wrap_zero (by omega) (by simp only [List.length_map]; omega)] at h9'; simp only [List.length_map] at h9'; omega
  refine W.seq ?_
  apply regionB; (case hb => rfl)
  ·
   refine pE rfl ?_
   first | refine pE rfl ?_ | refine pR rfl rfl rfl rfl rfl ?_ | refine pB rfl rfl rfl rfl rfl rfl ?_
   iterate 3 refine pE rfl ?_
   apply splitJ; (case hj => rfl); (case hl => rfl)
   ·
    iterate 4 refine skipT rfl rfl rfl rfl ?_
    iterate 2 refine pE rfl ?_
    refine WO.nil ?_
    refine qv1 rfl rfl rfl
   ·
    refine goG rfl rfl ?_
    refine pE rfl ?_
    refine goG rfl rfl ?_
    first | refine pE rfl ?_ | refine pR rfl rfl rfl rfl rfl ?_ | refine pB rfl rfl rfl rfl rfl rfl ?_
    refine goG rfl rfl ?_
    refine pE rfl ?_
    refine goG rfl rfl ?_
    iterate 3 refine pE rfl ?_
    refine WO.nil ?_
    refine qv1 rfl rfl rfl
  refine qs ?_
  refine condK rfl (fun h18 => ?_) (fun h18 => ?_)
  ·
   refine W.seq (W.region ?_)
   refine pE rfl ?_
   refine WO.nil (qs (W.ret (qbRet (qsRet ?_))))
   refine QF.ret0 trivial rfl ?_
   simp only [norm, oneA, List.length_map] at *; grind [groupErr]
  ·
   have h18 : ¬ (16 < s.cols.length ∨ 16 < s.aggs.length) := by simp only [List.length_map] at h18; intro h; simp at h18; omega
   have hge : groupErr s = if allErr [] s.cols ≠ 0 then allErr [] s.cols else aggErr s.cols s.aggs := by unfold groupErr; rw [if_neg h9, if_neg h18]
   refine W.skip (qbN (qs (W.seq (W.region ?_))))
   refine allocR tab rfl rfl rfl ?_
   refine WO.nil (qs ?_)
   iterate 2 refine W.seq ?_
   refine W.region ?_
   refine ownNilBoxO 1 0 rfl rfl rfl ?_
   refine pE rfl ?_
   first | refine pE rfl ?_ | refine pR rfl rfl rfl rfl rfl ?_ | refine pB rfl rfl rfl rfl rfl rfl ?_
   refine callB [1] [2] rfl rfl rfl rfl rfl ((allNames_fn [] s.cols (by simp; omega))) rfl rfl (by rfl) (by rfl) rfl rfl rfl rfl ?_
   refine pE rfl ?_
   refine WO.nil (qs (W.seq (W.region ?_)))
   iterate 2 refine pE rfl ?_
   refine WO.nil (qs ?_)
   refine condK rfl (fun h33 => ?_) (fun h33 => ?_)
   ·
    rw [if_pos (by simpa using h33)] at hge
    refine W.seq (W.region ?_)
    iterate 2 refine pE rfl ?_
    refine WO.nil (qs (W.ret (qsRet ?_)))
    refine QF.ret0 trivial rfl ?_
    rw [hge]; rfl
   ·
    have h33 : allErr [] s.cols = 0 := by simpa using h33
    rw [if_neg (by simp [h33])] at hge
    have hto := allTo_ok [] s.cols h33
    refine W.skip (qs ?_)
    iterate 2 refine W.seq ?_
    refine W.region ?_
    refine pE rfl ?_
    first | refine pE rfl ?_ | refine pR rfl rfl rfl rfl rfl ?_ | refine pB rfl rfl rfl rfl rfl rfl ?_
    iterate 2 refine pE rfl ?_
    refine WO.nil (qs (W.block ?_))
    refine W.loopR (ι := {x : Nat × List ByteArray // match x with | (k, ns) => k ≤ s.aggs.length ∧ aggErr ns (s.aggs.drop k) = aggErr s.cols s.aggs ∧ ns.length ≤ s.cols.length + k})
     (fun x => match x.1 with | (k, ns) => [(3, .ptr 0 0), (38, .d (.v (.int .i64 ((k : Nat) : Int))))]) [(36, _), (37, _)]
     (fun x => match x.1 with | (k, ns) => [(0, [.own 1 (ns.map sc)])]) [] [1] 2 (fun x => match x.1 with | (k, ns) => s.aggs.length - k)
     [1, 4] ⟨(0, allTo [] s.cols), ?_⟩ rfl ?_ ⟨rfl, rfl, rfl, rfl, trivial⟩ ?_ trivial rfl ?_
    · exact ⟨Nat.zero_le _, by rw [hto]; rfl, by rw [hto]; simp⟩
    · repeat' first | exact trivial | refine ⟨rfl, ?_⟩ | refine ⟨step_nat (by assumption) (by assumption), ?_⟩
    · repeat' first | exact trivial | refine ⟨rfl, ?_⟩ | refine ⟨step_nat (by assumption) (by assumption), ?_⟩
    rintro ⟨⟨k, ns⟩, hk, hI, hL⟩
    show W _ _ _ _ _ ⟨[(3, .ptr 0 0), (38, .d (.v (.int .i64 ((k : Nat) : Int)))), (36, _), (37, _)], [(0, [.own 1 (ns.map sc)])], [1], 2⟩
    refine W.seq (W.region ?_)
    refine pE rfl ?_
    refine WO.nil (qs (W.seq ?_))
    refine eachR (l := s.aggs) (k := k) rfl (by simp [Ex.kc_len, bytes_len]) hk (fun x hx hd hlt => ?_) (fun he hd => ?_)
    ·
     rw [hd] at hI
     simp only [aggErr] at hI
     refine W.skip (qs (W.seq (W.block (W.seq (W.region ?_)))))
     refine pu (indexAddr tab rfl rfl rfl rfl rfl rfl (Int.natCast_nonneg _) (idx_map hx) rfl) rfl ?_
     first | refine pE rfl ?_ | refine pR rfl rfl rfl rfl rfl ?_ | refine pB rfl rfl rfl rfl rfl rfl ?_
     refine allocR tab rfl rfl rfl ?_
     refine storeR tab rfl rfl rfl rfl rfl rfl rfl rfl ?_
     refine WO.nil (qs (W.seq (W.region ?_)))
     refine pE rfl ?_
     first | refine pE rfl ?_ | refine pR rfl rfl rfl rfl rfl ?_ | refine pB rfl rfl rfl rfl rfl rfl ?_
     iterate 2 refine pE rfl ?_
     refine WO.nil (qs ?_)
     iterate 2 refine W.seq ?_
     apply regionB; (case hb => rfl)
     ·
      iterate 3 refine pE rfl ?_
      apply splitJ; (case hj => rfl); (case hl => rfl)
      ·
       refine goG rfl rfl ?_
       refine pu (buildV tab rfl rfl rfl rfl rfl rfl rfl rfl rfl) rfl ?_
       refine goG rfl rfl ?_
       refine pE rfl ?_
       refine goG rfl rfl ?_
       first | refine pE rfl ?_ | refine pR rfl rfl rfl rfl rfl ?_ | refine pB rfl rfl rfl rfl rfl rfl ?_
       refine goG rfl rfl ?_
       refine pu (puCall rfl rfl rfl (contains_fn [wSum, wMin, wMax, wFirst] x.fn) rfl) rfl ?_
       refine goG rfl rfl ?_
       iterate 3 refine pE rfl ?_
       apply splitJ; (case hj => rfl); (case hl => rfl)
       ·
        iterate 5 refine skipT rfl rfl rfl rfl ?_
        refine pE rfl ?_
        refine WO.nil ?_
        refine qv1 rfl rfl rfl
       ·
        refine goG rfl rfl ?_
        refine pE rfl ?_
        refine goG rfl rfl ?_
        refine pE rfl ?_
        refine goG rfl rfl ?_
        first | refine pE rfl ?_ | refine pR rfl rfl rfl rfl rfl ?_ | refine pB rfl rfl rfl rfl rfl rfl ?_
        refine goG rfl rfl ?_
        refine pE rfl ?_
        refine goG rfl rfl ?_
        iterate 2 refine pE rfl ?_
        refine WO.nil ?_
        refine qv1 rfl rfl rfl
      ·
       iterate 5 refine skipT rfl rfl rfl rfl ?_
       iterate 2 refine pE rfl ?_
       refine goG rfl rfl ?_
       refine pE rfl ?_
       refine goG rfl rfl ?_
       refine pE rfl ?_
       refine goG rfl rfl ?_
       first | refine pE rfl ?_ | refine pR rfl rfl rfl rfl rfl ?_ | refine pB rfl rfl rfl rfl rfl rfl ?_
       refine goG rfl rfl ?_
       refine pE rfl ?_
       refine goG rfl rfl ?_
       iterate 2 refine pE rfl ?_
       refine WO.nil ?_
       refine qv1 rfl rfl rfl
     refine qs ?_
     refine condK rfl (fun h60 => ?_) (fun h60 => ?_)
     ·
      have h60 : badAgg x = true := by revert h60; simp only [badAgg, knownAgg, wCount]; by_cases q : x.fn = B #[99, 111, 117, 110, 116] <;> by_cases q2 : x.col = B #[] <;> simp [q, q2] <;> grind
      rw [if_pos h60] at hI
      refine W.seq (W.region ?_)
      refine pE rfl ?_
      refine WO.nil (qs (W.ret (qsRet (qbRet (qsRet (qlRet (qbRet (qsRet ?_))))))))
      refine QF.ret0 trivial rfl ?_
      rw [hge, ← hI]; rfl
     ·
      have h60 : ¬ (badAgg x = true) := by revert h60; simp only [badAgg, knownAgg, wCount]; by_cases q : x.fn = B #[99, 111, 117, 110, 116] <;> by_cases q2 : x.col = B #[] <;> simp [q, q2] <;> grind
      rw [if_neg h60] at hI
      refine W.skip (qs ?_)
      iterate 2 refine W.seq ?_
      apply regionB; (case hb => rfl)
      ·
       refine pE rfl ?_
       first | refine pE rfl ?_ | refine pR rfl rfl rfl rfl rfl ?_ | refine pB rfl rfl rfl rfl rfl rfl ?_
       iterate 2 refine pE rfl ?_
       apply splitJ; (case hj => rfl); (case hl => rfl)
       ·
        refine goG rfl rfl ?_
        refine pE rfl ?_
        refine goG rfl rfl ?_
        first | refine pE rfl ?_ | refine pR rfl rfl rfl rfl rfl ?_ | refine pB rfl rfl rfl rfl rfl rfl ?_
        refine goG rfl rfl ?_
        refine pu (puCall rfl rfl rfl (identifier_fn ..) rfl) rfl ?_
        refine goG rfl rfl ?_
        iterate 2 refine pE rfl ?_
        refine WO.nil ?_
        refine qv1 rfl rfl rfl
       ·
        iterate 4 refine skipT rfl rfl rfl rfl ?_
        refine pE rfl ?_
        refine WO.nil ?_
        refine qv1 rfl rfl rfl
      refine qs ?_
      refine condK rfl (fun h69 => ?_) (fun h69 => ?_)
      ·
       have h69 : x.col ≠ B #[] ∧ identB x.col = false := by revert h69; by_cases q2 : x.col = B #[] <;> simp [q2]
       rw [if_pos h69] at hI
       refine W.seq (W.region ?_)
       refine pE rfl ?_
       refine WO.nil (qs (W.ret (qsRet (qbRet (qsRet (qlRet (qbRet (qsRet ?_))))))))
       refine QF.ret0 trivial rfl ?_
       rw [hge, ← hI]; rfl
      ·
       have h69 : ¬ (x.col ≠ B #[] ∧ identB x.col = false) := by revert h69; by_cases q2 : x.col = B #[] <;> simp [q2]
       rw [if_neg h69] at hI
       refine W.skip (qs (W.seq (W.region ?_)))
       refine pE rfl ?_
       first | refine pE rfl ?_ | refine pR rfl rfl rfl rfl rfl ?_ | refine pB rfl rfl rfl rfl rfl rfl ?_
       refine callB [0] [1] rfl rfl rfl rfl rfl ((add_fn ns x.name (by omega))) rfl rfl (by rfl) (by rfl) rfl rfl rfl rfl ?_
       refine pE rfl ?_
       refine WO.nil (qs (W.seq (W.region ?_)))
       iterate 2 refine pE rfl ?_
       refine WO.nil (qs ?_)
       refine condK rfl (fun h74 => ?_) (fun h74 => ?_)
       ·
        rw [if_pos (by simpa using h74)] at hI
        refine W.seq (W.region ?_)
        iterate 2 refine pE rfl ?_
        refine WO.nil (qs (W.ret (qbRet (qsRet (qlRet (qbRet (qsRet ?_)))))))
        refine QF.ret0 trivial rfl ?_
        rw [hge, ← hI]; rfl
       ·
        have h74 : addErr ns x.name = 0 := by simpa using h74
        rw [if_neg (by simp [h74])] at hI
        have hto : addTo ns x.name = ns ++ [x.name] := by simp [addTo, h74]
        refine W.skip (qbN (qs (W.region ?_)))
        iterate 2 refine pE rfl ?_
        refine WO.nil ?_
        refine W.endR [0, 4] ⟨(k + 1, addTo ns x.name), ?_⟩ ?_ rfl ?_ ⟨rfl, rfl, rfl, rfl, trivial⟩ ?_ trivial rfl
        ·
         refine ⟨hlt, ?_, ?_⟩
         · rw [hto]; exact hI
         · rw [hto]; simp; omega
        · dsimp only; omega
        · repeat' first | exact trivial | refine ⟨rfl, ?_⟩ | refine ⟨step_nat (by assumption) (by assumption), ?_⟩
        · repeat' first | exact trivial | refine ⟨rfl, ?_⟩ | refine ⟨step_nat (by assumption) (by assumption), ?_⟩
    ·
     rw [hd] at hI
     simp only [aggErr] at hI
     refine W.exit (qsExit (qlExit (qbExit (qs (W.seq (W.region ?_))))))
     refine pE rfl ?_
     refine WO.nil (qs (W.ret ?_))
     refine QF.ret0 trivial rfl ?_
     rw [hge, ← hI]; rfl
end Go.Proofs.YtifeonoehfffmaaGreatDoor
namespace Go.Proofs.YtifeonoehfffmaaGreatDoor
open Go.Ab Go.Tb
set_option maxRecDepth 10000
attribute [local irreducible] W WO Pu QS QB QL QF QV QV1 CH QE
theorem uses_fn (s : Stp) : Does Tryz.prog 91 [.ag s.c] (.d (.v (.bool (usesB s)))) 0 := by
 refine Does.of_W (n := 83) (ts := [2]) Tryz.func91 (by kernel_rfl) rfl Tryz.ntmps91 Tryz.results91 rfl rfl fun C hC hG => ?_
 refine W.seq (W.region ?_)
 refine boxR rfl rfl rfl ?_
 refine pE rfl ?_
 refine WO.nil (qs (W.seq (W.region ?_)))
 iterate 2 refine pE rfl ?_
 refine WO.nil (qs (W.seq (W.block (W.seq ?_))))
 apply regionB; (case hb => rfl)
 ·
  refine pE rfl ?_
  first | refine pE rfl ?_ | refine pR rfl rfl rfl rfl rfl ?_ | refine pB rfl rfl rfl rfl rfl rfl ?_
  iterate 2 refine pE rfl ?_
  apply splitJ; (case hj => rfl); (case hl => rfl)
  ·
   iterate 3 refine skipT rfl rfl rfl rfl ?_
   iterate 2 refine pE rfl ?_
   refine WO.nil ?_
   refine qv1 rfl rfl rfl
  ·
   refine goG rfl rfl ?_
   refine pE rfl ?_
   refine goG rfl rfl ?_
   first | refine pE rfl ?_ | refine pR rfl rfl rfl rfl rfl ?_ | refine pB rfl rfl rfl rfl rfl rfl ?_
   refine goG rfl rfl ?_
   iterate 3 refine pE rfl ?_
   refine WO.nil ?_
   refine qv1 rfl rfl rfl
 refine qs ?_
 refine condK rfl (fun h5 => ?_) (fun h5 => ?_)
 ·
  refine W.seq (W.region ?_)
  refine pE rfl ?_
  refine WO.nil (qs (W.ret (qbRet (qsRet ?_))))
  refine QF.ret0 trivial rfl ?_
  simp only [norm, oneA, List.length_map, List.any_cons, List.any_nil, Bool.or_false] at *; congr 3; simp only [usesB, tableOp]; grind
 ·
  iterate 2 refine W.seq ?_
  apply regionB; (case hb => rfl)
  ·
   refine pE rfl ?_
   refine pu (buildV tab rfl rfl rfl rfl rfl rfl rfl rfl rfl) rfl ?_
   refine pu (puCall rfl rfl rfl (uses1_fn [1] s) rfl) rfl ?_
   iterate 2 refine pE rfl ?_
   apply splitJ; (case hj => rfl); (case hl => rfl)
   ·
    refine goG rfl rfl ?_
    refine pE rfl ?_
    refine goG rfl rfl ?_
    first | refine pE rfl ?_ | refine pR rfl rfl rfl rfl rfl ?_ | refine pB rfl rfl rfl rfl rfl rfl ?_
    refine goG rfl rfl ?_
    refine pu (puCall rfl rfl rfl (zero_fn s.cond) rfl) rfl ?_
    refine goG rfl rfl ?_
    iterate 3 refine pE rfl ?_
    refine WO.nil ?_
    refine qv1 rfl rfl rfl
   ·
    iterate 4 refine skipT rfl rfl rfl rfl ?_
    iterate 2 refine pE rfl ?_
    refine WO.nil ?_
    refine qv1 rfl rfl rfl
  refine qs ?_
  refine condK rfl (fun h14 => ?_) (fun h14 => ?_)
  ·
   refine W.skip (qs ?_)
   refine W.condT rfl ?_
   refine W.seq (W.region ?_)
   refine pE rfl ?_
   refine WO.nil (qs (W.ret (qbRet (qsRet ?_))))
   refine QF.ret0 trivial rfl ?_
   simp only [norm, oneA, List.length_map, List.any_cons, List.any_nil, Bool.or_false] at *; congr 3; simp only [usesB, tableOp]; grind
  ·
   refine W.seq ?_
   apply regionB; (case hb => rfl)
   ·
    refine pE rfl ?_
    refine pu (buildV tab rfl rfl rfl rfl rfl rfl rfl rfl rfl) rfl ?_
    refine pu (puCall rfl rfl rfl (uses1_fn [2] s) rfl) rfl ?_
    iterate 2 refine pE rfl ?_
    apply splitJ; (case hj => rfl); (case hl => rfl)
    ·
     refine goG rfl rfl ?_
     refine pE rfl ?_
     refine goG rfl rfl ?_
     first | refine pE rfl ?_ | refine pR rfl rfl rfl rfl rfl ?_ | refine pB rfl rfl rfl rfl rfl rfl ?_
     refine goG rfl rfl ?_
     refine pE rfl ?_
     refine goG rfl rfl ?_
     iterate 3 refine pE rfl ?_
     refine WO.nil ?_
     refine qv1 rfl rfl rfl
    ·
     iterate 4 refine skipT rfl rfl rfl rfl ?_
     iterate 2 refine pE rfl ?_
     refine WO.nil ?_
     refine qv1 rfl rfl rfl
   refine qs ?_
   refine condK rfl (fun h14 => ?_) (fun h14 => ?_)
   ·
    refine W.skip (qs ?_)
    refine W.condT rfl ?_
    refine W.seq (W.region ?_)
    refine pE rfl ?_
    refine WO.nil (qs (W.ret (qbRet (qsRet ?_))))
    refine QF.ret0 trivial rfl ?_
    simp only [norm, oneA, List.length_map, List.any_cons, List.any_nil, Bool.or_false] at *; congr 3; simp only [usesB, tableOp]; grind
   ·
    refine W.seq ?_
    apply regionB; (case hb => rfl)
    ·
     refine pE rfl ?_
     refine pu (buildV tab rfl rfl rfl rfl rfl rfl rfl rfl rfl) rfl ?_
     refine pu (puCall rfl rfl rfl (uses1_fn [3] s) rfl) rfl ?_
     iterate 2 refine pE rfl ?_
     apply splitJ; (case hj => rfl); (case hl => rfl)
     ·
      refine goG rfl rfl ?_
      refine pE rfl ?_
      refine goG rfl rfl ?_
      first | refine pE rfl ?_ | refine pR rfl rfl rfl rfl rfl ?_ | refine pB rfl rfl rfl rfl rfl rfl ?_
      refine goG rfl rfl ?_
      refine pE rfl ?_
      refine goG rfl rfl ?_
      iterate 3 refine pE rfl ?_
      refine WO.nil ?_
      refine qv1 rfl rfl rfl
     ·
      iterate 4 refine skipT rfl rfl rfl rfl ?_
      iterate 2 refine pE rfl ?_
      refine WO.nil ?_
      refine qv1 rfl rfl rfl
    refine qs ?_
    refine condK rfl (fun h14 => ?_) (fun h14 => ?_)
    ·
     refine W.skip (qs ?_)
     refine W.condT rfl ?_
     refine W.seq (W.region ?_)
     refine pE rfl ?_
     refine WO.nil (qs (W.ret (qbRet (qsRet ?_))))
     refine QF.ret0 trivial rfl ?_
     simp only [norm, oneA, List.length_map, List.any_cons, List.any_nil, Bool.or_false] at *; congr 3; simp only [usesB, tableOp]; grind
    ·
     refine W.seq ?_
     apply regionB; (case hb => rfl)
     ·
      refine pE rfl ?_
      refine pu (buildV tab rfl rfl rfl rfl rfl rfl rfl rfl rfl) rfl ?_
      refine pu (puCall rfl rfl rfl (uses1_fn [4] s) rfl) rfl ?_
      iterate 2 refine pE rfl ?_
      apply splitJ; (case hj => rfl); (case hl => rfl)
      ·
       refine goG rfl rfl ?_
       refine pE rfl ?_
       refine goG rfl rfl ?_
       first | refine pE rfl ?_ | refine pR rfl rfl rfl rfl rfl ?_ | refine pB rfl rfl rfl rfl rfl rfl ?_
       refine goG rfl rfl ?_
       refine pE rfl ?_
       refine goG rfl rfl ?_
       iterate 3 refine pE rfl ?_
       refine WO.nil ?_
       refine qv1 rfl rfl rfl
      ·
       iterate 4 refine skipT rfl rfl rfl rfl ?_
       iterate 2 refine pE rfl ?_
       refine WO.nil ?_
       refine qv1 rfl rfl rfl
     refine qs ?_
     refine condK rfl (fun h14 => ?_) (fun h14 => ?_)
     ·
      refine W.skip (qs ?_)
      refine W.condT rfl ?_
      refine W.seq (W.region ?_)
      refine pE rfl ?_
      refine WO.nil (qs (W.ret (qbRet (qsRet ?_))))
      refine QF.ret0 trivial rfl ?_
      simp only [norm, oneA, List.length_map, List.any_cons, List.any_nil, Bool.or_false] at *; congr 3; simp only [usesB, tableOp]; grind
     ·
      apply regionB; (case hb => rfl)
      ·
       refine pE rfl ?_
       refine pu (buildV tab rfl rfl rfl rfl rfl rfl rfl rfl rfl) rfl ?_
       refine pu (puCall rfl rfl rfl (uses1_fn [5] s) rfl) rfl ?_
       iterate 2 refine pE rfl ?_
       apply splitJ; (case hj => rfl); (case hl => rfl)
       ·
        refine goG rfl rfl ?_
        refine pE rfl ?_
        refine goG rfl rfl ?_
        first | refine pE rfl ?_ | refine pR rfl rfl rfl rfl rfl ?_ | refine pB rfl rfl rfl rfl rfl rfl ?_
        refine goG rfl rfl ?_
        iterate 3 refine pE rfl ?_
        refine WO.nil ?_
        refine qv1 rfl rfl rfl
       ·
        iterate 3 refine skipT rfl rfl rfl rfl ?_
        iterate 2 refine pE rfl ?_
        refine WO.nil ?_
        refine qv1 rfl rfl rfl
      refine qs ?_
      refine condK rfl (fun h14 => ?_) (fun h14 => ?_)
      ·
       refine W.seq (W.region ?_)
       refine pE rfl ?_
       refine WO.nil (qs (W.ret (qbRet (qsRet ?_))))
       refine QF.ret0 trivial rfl ?_
       simp only [norm, oneA, List.length_map, List.any_cons, List.any_nil, Bool.or_false] at *; congr 3; simp only [usesB, tableOp]; grind
      ·
       refine W.seq ?_
       apply regionB; (case hb => rfl)
       ·
        refine pE rfl ?_
        refine pu (buildV tab rfl rfl rfl rfl rfl rfl rfl rfl rfl) rfl ?_
        refine pu (puCall rfl rfl rfl (uses1_fn [6, 7, 8] s) rfl) rfl ?_
        iterate 2 refine pE rfl ?_
        apply splitJ; (case hj => rfl); (case hl => rfl)
        ·
         refine goG rfl rfl ?_
         refine pE rfl ?_
         refine goG rfl rfl ?_
         first | refine pE rfl ?_ | refine pR rfl rfl rfl rfl rfl ?_ | refine pB rfl rfl rfl rfl rfl rfl ?_
         refine goG rfl rfl ?_
         iterate 3 refine pE rfl ?_
         refine WO.nil ?_
         refine qv1 rfl rfl rfl
        ·
         iterate 3 refine skipT rfl rfl rfl rfl ?_
         iterate 2 refine pE rfl ?_
         refine WO.nil ?_
         refine qv1 rfl rfl rfl
       refine qs ?_
       refine condK rfl (fun h64 => ?_) (fun h64 => ?_)
       ·
        refine W.seq (W.region ?_)
        refine pE rfl ?_
        refine WO.nil (qs (W.ret (qbRet (qsRet ?_))))
        refine QF.ret0 trivial rfl ?_
        simp only [norm, oneA, List.length_map, List.any_cons, List.any_nil, Bool.or_false] at *; congr 3; simp only [usesB, tableOp]; grind
       ·
        refine W.skip (qbN (qs (W.seq ?_)))
        apply regionB; (case hb => rfl)
        ·
         refine pE rfl ?_
         refine pu (buildV tab rfl rfl rfl rfl rfl rfl rfl rfl rfl) rfl ?_
         refine pu (puCall rfl rfl rfl (uses1_fn [3, 6, 7, 8, 9] s) rfl) rfl ?_
         refine pE rfl ?_
         apply splitJ; (case hj => rfl); (case hl => rfl)
         ·
          iterate 4 refine skipT rfl rfl rfl rfl ?_
          iterate 2 refine pE rfl ?_
          refine WO.nil ?_
          refine qv1 rfl rfl rfl
         ·
          refine goG rfl rfl ?_
          refine pE rfl ?_
          refine goG rfl rfl ?_
          first | refine pE rfl ?_ | refine pR rfl rfl rfl rfl rfl ?_ | refine pB rfl rfl rfl rfl rfl rfl ?_
          refine goG rfl rfl ?_
          refine pE rfl ?_
          refine goG rfl rfl ?_
          iterate 3 refine pE rfl ?_
          refine WO.nil ?_
          refine qv1 rfl rfl rfl
        refine qs (W.ret ?_)
        refine QF.ret0 trivial rfl ?_
        simp only [norm, oneA, List.length_map, List.any_cons, List.any_nil, Bool.or_false] at *; congr 3; simp only [usesB, tableOp]; grind
theorem step_fn (s : Stp) (hs : s.sorts.length ≤ 100000) : Does Tryz.prog 49 [.ag s.c] (.d (.v (.int .i64 (stepErr s)))) 0 := by
 refine Does.of_W (n := 77) (ts := [2]) Tryz.func49 (by kernel_rfl) rfl Tryz.ntmps49 Tryz.results49 rfl rfl fun C hC hG => ?_
 refine W.seq (W.region ?_)
 refine boxR rfl rfl rfl ?_
 refine pE rfl ?_
 refine WO.nil (qs ?_)
 iterate 2 refine W.seq ?_
 refine W.region ?_
 first | refine pE rfl ?_ | refine pR rfl rfl rfl rfl rfl ?_ | refine pB rfl rfl rfl rfl rfl rfl ?_
 refine pu (puCall rfl rfl rfl (uses_fn s) rfl) rfl ?_
 refine pE rfl ?_
 refine WO.nil (qs ?_)
 refine condK rfl (fun h10 => ?_) (fun h10 => ?_)
 ·
  have h10 : usesB s = false := by simpa using h10
  refine W.seq (W.region ?_)
  refine pE rfl ?_
  refine WO.nil (qs (W.ret (qsRet ?_)))
  refine QF.ret0 trivial rfl ?_
  simp only [norm, oneA, List.length_map] at *; grind [stepErr]
 ·
  have h10 : usesB s = true := by simpa using h10
  refine W.skip (qs ?_)
  iterate 2 refine W.seq ?_
  refine W.region ?_
  refine pE rfl ?_
  first | refine pE rfl ?_ | refine pR rfl rfl rfl rfl rfl ?_ | refine pB rfl rfl rfl rfl rfl rfl ?_
  refine WO.nil (qs (W.block (W.seq (W.region ?_))))
  iterate 2 refine pE rfl ?_
  refine WO.nil (qs ?_)
  refine condK rfl (fun h13 => ?_) (fun h13 => ?_)
  ·
   refine W.seq (W.region ?_)
   refine pE rfl ?_
   first | refine pE rfl ?_ | refine pR rfl rfl rfl rfl rfl ?_ | refine pB rfl rfl rfl rfl rfl rfl ?_
   refine pu (puCall rfl rfl rfl (expr_fn s.cond) rfl) rfl ?_
   refine pE rfl ?_
   refine WO.nil (qs (W.ret (qbRet (qsRet ?_))))
   refine QF.ret0 trivial rfl ?_
   simp only [norm, oneA, List.length_map] at *; grind [stepErr]
  ·
   refine W.seq (W.region ?_)
   iterate 2 refine pE rfl ?_
   refine WO.nil (qs ?_)
   refine condK rfl (fun h18 => ?_) (fun h18 => ?_)
   ·
    iterate 2 refine W.seq ?_
    refine W.region ?_
    refine pE rfl ?_
    first | refine pE rfl ?_ | refine pR rfl rfl rfl rfl rfl ?_ | refine pB rfl rfl rfl rfl rfl rfl ?_
    refine pE rfl ?_
    refine pu (puCall rfl rfl rfl (size_fn ..) rfl) rfl ?_
    refine pE rfl ?_
    refine WO.nil (qs (W.seq (W.region ?_)))
    iterate 2 refine pE rfl ?_
    refine WO.nil (qs ?_)
    refine condK rfl (fun h25 => ?_) (fun h25 => ?_)
    ·
     refine W.seq (W.region ?_)
     iterate 2 refine pE rfl ?_
     refine WO.nil (qs (W.ret (qsRet (qbRet (qsRet ?_)))))
     refine QF.ret0 trivial rfl ?_
     simp only [norm, oneA, List.length_map] at *; grind [stepErr]
    ·
     have h25 : sizeErr s.items.length 1 = 0 := by simpa using h25
     have hl16 : s.items.length ≤ 16 := by unfold sizeErr at h25; split at h25; omega; split at h25 <;> omega
     refine W.skip (qs (W.seq (W.region ?_)))
     refine pE rfl ?_
     first | refine pE rfl ?_ | refine pR rfl rfl rfl rfl rfl ?_ | refine pB rfl rfl rfl rfl rfl rfl ?_
     refine pu (puCall rfl rfl rfl (items_fn s.items hl16) rfl) rfl ?_
     refine pE rfl ?_
     refine WO.nil (qs (W.ret (qbRet (qsRet ?_))))
     refine QF.ret0 trivial rfl ?_
     simp only [norm, oneA, List.length_map] at *; grind [stepErr]
   ·
    refine W.seq (W.region ?_)
    iterate 2 refine pE rfl ?_
    refine WO.nil (qs ?_)
    refine condK rfl (fun h30 => ?_) (fun h30 => ?_)
    ·
     refine W.seq (W.region ?_)
     first | refine pE rfl ?_ | refine pR rfl rfl rfl rfl rfl ?_ | refine pB rfl rfl rfl rfl rfl rfl ?_
     refine pu (puCall rfl rfl rfl (group_fn s) rfl) rfl ?_
     refine pE rfl ?_
     refine WO.nil (qs (W.ret (qbRet (qsRet ?_))))
     refine QF.ret0 trivial rfl ?_
     simp only [norm, oneA, List.length_map] at *; grind [stepErr]
    ·
     refine W.seq (W.region ?_)
     iterate 2 refine pE rfl ?_
     refine WO.nil (qs ?_)
     refine condK rfl (fun h34 => ?_) (fun h34 => ?_)
     ·
      refine W.seq (W.region ?_)
      refine pE rfl ?_
      refine WO.nil (qs ?_)
      iterate 2 refine W.seq ?_
      refine W.region ?_
      refine pE rfl ?_
      first | refine pE rfl ?_ | refine pR rfl rfl rfl rfl rfl ?_ | refine pB rfl rfl rfl rfl rfl rfl ?_
      iterate 2 refine pE rfl ?_
      refine WO.nil (qs (W.block ?_))
      refine ownNilR (d := 4) rfl rfl ?_
      refine W.len (t := 37) rfl rfl (fun hlen => ?_)
      try simp only [List.length_map, Ex.kc_len] at hlen
      refine W.loopR (ι := {x : Nat × List ByteArray // match x with | (k, ns) => k ≤ s.sorts.length ∧ ns = (s.sorts.take k).map Srt.col})
       (fun x => match x.1 with | (k, ns) => [(4, .own 0 (ns.map sc)), (39, .d (.v (.int .i64 ((k : Nat) : Int))))]) [(37, _), (38, _)]
       (fun x => match x.1 with | (k, ns) => []) [] [0] 1 (fun x => match x.1 with | (k, ns) => s.sorts.length - k)
       [1] ⟨(0, []), ?_⟩ rfl ?_ ⟨rfl, rfl, rfl, rfl, trivial⟩ ?_ trivial rfl ?_
      · exact ⟨Nat.zero_le _, rfl⟩
      · repeat' first | exact trivial | refine ⟨rfl, ?_⟩ | refine ⟨step_nat (by assumption) (by assumption), ?_⟩
      · repeat' first | exact trivial | refine ⟨rfl, ?_⟩ | refine ⟨step_nat (by assumption) (by assumption), ?_⟩
      rintro ⟨⟨k, ns⟩, hk, hI⟩
      show W _ _ _ _ _ ⟨[(4, .own 0 (ns.map sc)), (39, .d (.v (.int .i64 ((k : Nat) : Int)))), (37, _), (38, _)], [], [0], 1⟩
      refine W.seq (W.region ?_)
      refine pE rfl ?_
      refine WO.nil (qs (W.seq ?_))
      refine eachR (l := s.sorts) (k := k) rfl (by simp [Ex.kc_len, bytes_len]) hk (fun x hx hd hlt => ?_) (fun he hd => ?_)
      ·
       have hnl : ns.length = k := by rw [hI]; simp; omega
       refine W.skip (qs (W.seq (W.block (W.seq (W.region ?_)))))
       refine pu (indexAddr tab rfl rfl rfl rfl rfl rfl (Int.natCast_nonneg _) (idx_map hx) rfl) rfl ?_
       first | refine pE rfl ?_ | refine pR rfl rfl rfl rfl rfl ?_ | refine pB rfl rfl rfl rfl rfl rfl ?_
       refine allocR tab rfl rfl rfl ?_
       refine storeR tab rfl rfl rfl rfl rfl rfl rfl rfl ?_
       refine WO.nil (qs (W.region ?_))
       iterate 2 refine pE rfl ?_
       first | refine pE rfl ?_ | refine pR rfl rfl rfl rfl rfl ?_ | refine pB rfl rfl rfl rfl rfl rfl ?_
       refine pu (buildV tab rfl rfl rfl rfl rfl rfl rfl rfl rfl) rfl ?_
       refine appendM tab rfl rfl rfl rfl rfl rfl rfl rfl rfl rfl (fun _ => rfl) (by show (ns.length + 1) * 16 ≤ _; omega) ?_
       refine pE rfl ?_
       refine WO.nil (qbN (qs (W.region ?_)))
       iterate 2 refine pE rfl ?_
       refine WO.nil ?_
       refine W.endR [2] ⟨(k + 1, ns ++ [x.col]), ?_⟩ ?_ rfl ?_ ⟨rfl, rfl, rfl, rfl, trivial⟩ ?_ trivial rfl
       · exact ⟨hlt, by rw [hI, List.take_add_one, hx]; simp⟩
       · dsimp only; omega
       · repeat' first | exact trivial | refine ⟨rfl, ?_⟩ | refine ⟨step_nat (by assumption) (by assumption), ?_⟩
       · repeat' first | exact trivial | refine ⟨rfl, ?_⟩ | refine ⟨step_nat (by assumption) (by assumption), ?_⟩
      ·
       have hns : ns = s.sorts.map Srt.col := by rw [hI, he, List.take_length]
       refine W.exit (qsExit (qlExit (qbExit (qs (W.seq (W.region ?_))))))
       refine pE rfl ?_
       refine pu (puCall rfl rfl rfl (columns_fn ns 1) rfl) rfl ?_
       refine pE rfl ?_
       refine WO.nil (qs (W.ret (qbRet (qsRet ?_))))
       refine QF.ret0 trivial rfl ?_
       simp only [norm, oneA, List.length_map] at *; grind [stepErr]
     ·
      refine W.seq (W.region ?_)
      iterate 2 refine pE rfl ?_
      refine WO.nil (qs ?_)
      refine condK rfl (fun h51 => ?_) (fun h51 => ?_)
      ·
       iterate 2 refine W.seq ?_
       apply regionB; (case hb => rfl)
       ·
        refine pE rfl ?_
        first | refine pE rfl ?_ | refine pR rfl rfl rfl rfl rfl ?_ | refine pB rfl rfl rfl rfl rfl rfl ?_
        iterate 2 refine pE rfl ?_
        apply splitJ; (case hj => rfl); (case hl => rfl)
        ·
         iterate 3 refine skipT rfl rfl rfl rfl ?_
         refine pE rfl ?_
         refine WO.nil ?_
         refine qv1 rfl rfl rfl
        ·
         refine goG rfl rfl ?_
         refine pE rfl ?_
         refine goG rfl rfl ?_
         first | refine pE rfl ?_ | refine pR rfl rfl rfl rfl rfl ?_ | refine pB rfl rfl rfl rfl rfl rfl ?_
         refine goG rfl rfl ?_
         iterate 2 refine pE rfl ?_
         refine WO.nil ?_
         refine qv1 rfl rfl rfl
       refine qs ?_
       refine condK rfl (fun h60 => ?_) (fun h60 => ?_)
       ·
        refine W.seq (W.region ?_)
        refine pE rfl ?_
        refine WO.nil (qs (W.ret (qsRet (qbRet (qsRet ?_)))))
        refine QF.ret0 trivial rfl ?_
        simp only [norm, oneA, List.length_map] at *; grind [stepErr]
       ·
        refine W.skip (qs (W.seq (W.region ?_)))
        refine pE rfl ?_
        refine WO.nil (qs (W.ret (qbRet (qsRet ?_))))
        refine QF.ret0 trivial rfl ?_
        simp only [norm, oneA, List.length_map] at *; grind [stepErr]
      ·
       refine W.seq (W.region ?_)
       iterate 2 refine pE rfl ?_
       refine WO.nil (qs ?_)
       refine condK rfl (fun h61 => ?_) (fun h61 => ?_)
       ·
        refine W.seq (W.region ?_)
        refine pE rfl ?_
        first | refine pE rfl ?_ | refine pR rfl rfl rfl rfl rfl ?_ | refine pB rfl rfl rfl rfl rfl rfl ?_
        refine pu (puCall rfl rfl rfl (columns_fn ..) rfl) rfl ?_
        refine pE rfl ?_
        refine WO.nil (qs (W.ret (qbRet (qsRet ?_))))
        refine QF.ret0 trivial rfl ?_
        simp only [norm, oneA, List.length_map] at *; grind [stepErr]
       ·
        refine W.skip (qbN (qs ?_))
        iterate 2 refine W.seq ?_
        refine W.region ?_
        refine pE rfl ?_
        first | refine pE rfl ?_ | refine pR rfl rfl rfl rfl rfl ?_ | refine pB rfl rfl rfl rfl rfl rfl ?_
        refine pu (puCall rfl rfl rfl (identifier_fn ..) rfl) rfl ?_
        refine pE rfl ?_
        refine WO.nil (qs ?_)
        refine condK rfl (fun h69 => ?_) (fun h69 => ?_)
        ·
         refine W.seq (W.region ?_)
         refine pE rfl ?_
         refine WO.nil (qs (W.ret (qsRet ?_)))
         refine QF.ret0 trivial rfl ?_
         simp only [norm, oneA, List.length_map] at *; grind [stepErr]
        ·
         refine W.skip (qs (W.seq (W.region ?_)))
         refine pE rfl ?_
         refine WO.nil (qs ?_)
         iterate 2 refine W.seq ?_
         refine W.region ?_
         refine pE rfl ?_
         first | refine pE rfl ?_ | refine pR rfl rfl rfl rfl rfl ?_ | refine pB rfl rfl rfl rfl rfl rfl ?_
         refine pE rfl ?_
         refine WO.nil (qs ?_)
         refine condK rfl (fun h72 => ?_) (fun h72 => ?_)
         ·
          refine W.region ?_
          refine pE rfl ?_
          refine WO.nil (qs (W.seq (W.region ?_)))
          refine pE rfl ?_
          first | refine pE rfl ?_ | refine pR rfl rfl rfl rfl rfl ?_ | refine pB rfl rfl rfl rfl rfl rfl ?_
          refine pE rfl ?_
          refine pu (puCall rfl rfl rfl (columns_fn ..) rfl) rfl ?_
          refine pE rfl ?_
          refine WO.nil (qs (W.ret ?_))
          refine QF.ret0 trivial rfl ?_
          simp only [norm, oneA, List.length_map] at *; grind [stepErr]
         ·
          refine W.skip (qs (W.seq (W.region ?_)))
          refine pE rfl ?_
          first | refine pE rfl ?_ | refine pR rfl rfl rfl rfl rfl ?_ | refine pB rfl rfl rfl rfl rfl rfl ?_
          refine pE rfl ?_
          refine pu (puCall rfl rfl rfl (columns_fn ..) rfl) rfl ?_
          refine pE rfl ?_
          refine WO.nil (qs (W.ret ?_))
          refine QF.ret0 trivial rfl ?_
          simp only [norm, oneA, List.length_map] at *; grind [stepErr]
end Go.Proofs.YtifeonoehfffmaaGreatDoor
namespace Go.Proofs.YtifeonoehfffmaaGreatDoor
open Go.Ab Go.Tb
set_option maxRecDepth 10000
attribute [local irreducible] W WO Pu QS QB QL QF QV QV1 CH QE
theorem query_fn (q : Qry) (hs : ∀ s ∈ q.steps, s.sorts.length ≤ 100000) : Does Tryz.prog 23 [.ag q.c] (.d (.v (.int .i64 (queryErr q)))) 0 := by
 refine Does.of_W (n := 29) (ts := [2]) Tryz.func23 (by kernel_rfl) rfl Tryz.ntmps23 Tryz.results23 rfl rfl fun C hC hG => ?_
 refine W.seq (W.region ?_)
 refine boxR rfl rfl rfl ?_
 refine pE rfl ?_
 refine WO.nil (qs (W.seq (W.block (W.seq (W.region ?_)))))
 refine pE rfl ?_
 first | refine pE rfl ?_ | refine pR rfl rfl rfl rfl rfl ?_ | refine pB rfl rfl rfl rfl rfl rfl ?_
 refine pu (puCall rfl rfl rfl (identifier_fn ..) rfl) rfl ?_
 iterate 2 refine pE rfl ?_
 refine WO.nil (qs ?_)
 refine condK rfl (fun h6 => ?_) (fun h6 => ?_)
 ·
  refine W.seq (W.region ?_)
  refine pE rfl ?_
  refine WO.nil (qs (W.ret (qbRet (qsRet ?_))))
  refine QF.ret0 trivial rfl ?_
  simp only [norm, oneA] at *; grind [queryErr]
 ·
  refine W.seq (W.region ?_)
  refine pE rfl ?_
  first | refine pE rfl ?_ | refine pR rfl rfl rfl rfl rfl ?_ | refine pB rfl rfl rfl rfl rfl rfl ?_
  iterate 3 refine pE rfl ?_
  refine WO.nil (qs ?_)
  refine condK rfl (fun h11 => ?_) (fun h11 => ?_)
  ·
   refine W.seq (W.region ?_)
   refine pE rfl ?_
   refine WO.nil (qs (W.ret (qbRet (qsRet ?_))))
   refine QF.ret0 trivial rfl ?_
   simp only [norm, oneA, List.length_map] at *; grind [queryErr]
  ·
   have hq : queryErr q = stepsErr q.steps := by simp only [List.length_map] at *; grind [queryErr]
   refine W.skip (qbN (qs ?_))
   iterate 2 refine W.seq ?_
   refine W.region ?_
   refine pE rfl ?_
   first | refine pE rfl ?_ | refine pR rfl rfl rfl rfl rfl ?_ | refine pB rfl rfl rfl rfl rfl rfl ?_
   iterate 2 refine pE rfl ?_
   refine WO.nil (qs (W.block ?_))
   refine W.len (t := 17) rfl rfl (fun hlen => ?_)
   try simp only [List.length_map, Ex.kc_len] at hlen
   refine W.loopR (ι := {x : Nat // match x with | k => k ≤ q.steps.length ∧ stepsErr (q.steps.drop k) = stepsErr q.steps})
    (fun x => match x.1 with | k => [(19, .d (.v (.int .i64 ((k : Nat) : Int))))]) [(17, _), (18, _)]
    (fun x => match x.1 with | k => []) [] [] 0 (fun x => match x.1 with | k => q.steps.length - k)
    [] ⟨0, ?_⟩ rfl ?_ ⟨rfl, rfl, rfl, rfl, trivial⟩ ?_ trivial rfl ?_
   · first | exact ⟨Nat.zero_le _, rfl⟩ | exact trivial | simp
   · repeat' first | exact trivial | refine ⟨rfl, ?_⟩ | refine ⟨step_nat (by assumption) (by assumption), ?_⟩
   · repeat' first | exact trivial | refine ⟨rfl, ?_⟩ | refine ⟨step_nat (by assumption) (by assumption), ?_⟩
   rintro ⟨k, hk, hI⟩
   show W _ _ _ _ _ ⟨[(19, .d (.v (.int .i64 ((k : Nat) : Int)))), (17, _), (18, _)], [], [], 0⟩
   refine W.seq (W.region ?_)
   refine pE rfl ?_
   refine WO.nil (qs (W.seq ?_))
   refine eachR (l := q.steps) (k := k) rfl (by simp [Ex.kc_len, bytes_len]) hk (fun x hx hd hlt => ?_) (fun he hd => ?_)
   ·
    rw [hd] at hI
    simp only [stepsErr] at hI
    refine W.skip (qs (W.seq (W.block (W.seq (W.region ?_)))))
    refine pu (indexAddr tab rfl rfl rfl rfl rfl rfl (Int.natCast_nonneg _) (idx_map hx) rfl) rfl ?_
    first | refine pE rfl ?_ | refine pR rfl rfl rfl rfl rfl ?_ | refine pB rfl rfl rfl rfl rfl rfl ?_
    refine allocR tab rfl rfl rfl ?_
    refine storeR tab rfl rfl rfl rfl rfl rfl rfl rfl ?_
    refine WO.nil (qs (W.seq (W.region ?_)))
    first | refine pE rfl ?_ | refine pR rfl rfl rfl rfl rfl ?_ | refine pB rfl rfl rfl rfl rfl rfl ?_
    refine pu (puCall rfl rfl rfl (step_fn x (hs x (List.mem_of_getElem? hx))) rfl) rfl ?_
    refine pE rfl ?_
    refine WO.nil (qs (W.seq (W.region ?_)))
    iterate 2 refine pE rfl ?_
    refine WO.nil (qs ?_)
    refine condK rfl (fun h26 => ?_) (fun h26 => ?_)
    ·
     rw [if_pos (by simpa using h26)] at hI
     refine W.seq (W.region ?_)
     iterate 2 refine pE rfl ?_
     refine WO.nil (qs (W.ret (qbRet (qsRet (qlRet (qbRet (qsRet ?_)))))))
     refine QF.ret0 trivial rfl ?_
     rw [hq, ← hI]; rfl
    ·
     rw [if_neg (by simpa using h26)] at hI
     refine W.skip (qbN (qs (W.region ?_)))
     iterate 2 refine pE rfl ?_
     refine WO.nil ?_
     refine W.endR [] ⟨k + 1, ?_⟩ ?_ rfl ?_ ⟨rfl, rfl, rfl, rfl, trivial⟩ ?_ trivial rfl
     · exact ⟨hlt, hI⟩
     · dsimp only; omega
     · repeat' first | exact trivial | refine ⟨rfl, ?_⟩ | refine ⟨step_nat (by assumption) (by assumption), ?_⟩
     · repeat' first | exact trivial | refine ⟨rfl, ?_⟩ | refine ⟨step_nat (by assumption) (by assumption), ?_⟩
   ·
    rw [hd] at hI
    simp only [stepsErr] at hI
    refine W.exit (qsExit (qlExit (qbExit (qs (W.seq (W.region ?_))))))
    refine pE rfl ?_
    refine WO.nil (qs (W.ret ?_))
    refine QF.ret0 trivial rfl ?_
    rw [hq, ← hI]; rfl
end Go.Proofs.YtifeonoehfffmaaGreatDoor
namespace Go.Proofs.YtifeonoehfffmaaGreatDoor
open Go.Ab Go.Tb
set_option maxRecDepth 10000
attribute [local irreducible] W WO Pu QS QB QL QF QV QV1 CH QE
end Go.Proofs.YtifeonoehfffmaaGreatDoor
namespace Go.Proofs.YtifeonoehfffmaaGreatDoor
open Go.Ab Go.Tb
set_option maxRecDepth 10000
attribute [local irreducible] W WO Pu QS QB QL QF QV QV1 CH QE
end Go.Proofs.YtifeonoehfffmaaGreatDoor
namespace Go.Proofs.YtifeonoehfffmaaGreatDoor
open Go.Ab Go.Tb
set_option maxRecDepth 10000
attribute [local irreducible] W WO Pu QS QB QL QF QV QV1 CH QE
end Go.Proofs.YtifeonoehfffmaaGreatDoor
namespace Go.Proofs.YtifeonoehfffmaaGreatDoor
open Go.Ab Go.Tb
set_option maxRecDepth 10000
attribute [local irreducible] W WO Pu QS QB QL QF QV QV1 CH QE
end Go.Proofs.YtifeonoehfffmaaGreatDoor
namespace Go.Proofs.YtifeonoehfffmaaGreatDoor
open Go.Ab Go.Tb
set_option maxRecDepth 10000
attribute [local irreducible] W WO Pu QS QB QL QF QV QV1 CH QE
end Go.Proofs.YtifeonoehfffmaaGreatDoor
namespace Go.Proofs.YtifeonoehfffmaaGreatDoor
open Go.Ab Go.Tb
set_option maxRecDepth 10000
attribute [local irreducible] W WO Pu QS QB QL QF QV QV1 CH QE
end Go.Proofs.YtifeonoehfffmaaGreatDoor
namespace Go.Proofs.YtifeonoehfffmaaGreatDoor
open Go.Ab Go.Tb
set_option maxRecDepth 10000
attribute [local irreducible] W WO Pu QS QB QL QF QV QV1 CH QE
end Go.Proofs.YtifeonoehfffmaaGreatDoor
namespace Go.Proofs.YtifeonoehfffmaaGreatDoor
open Go.Ab Go.Tb
set_option maxRecDepth 10000
attribute [local irreducible] W WO Pu QS QB QL QF QV QV1 CH QE
def bK : ByteArray := B #[107]
def bZ : ByteArray := B #[122]
def bName : ByteArray := B #[110, 97, 109, 101]
def bA : ByteArray := B #[97]
def v0 : Val := ⟨0, 0, B #[]⟩
def fieldE (s : ByteArray) : Ex := .mk 2 s v0 []
def wCols : List Col := [⟨bK, 2⟩, ⟨bName, 3⟩]
def wE1 : Ex := .mk 12 (B #[]) v0 [fieldE bK, .mk 1 (B #[]) ⟨3, 0, bA⟩ []]
def wE2 : Ex := .mk 4 (B #[]) v0 [fieldE bZ]
def e0 : Ex := .mk 0 (B #[]) v0 []
theorem w1 : exprT wCols wE1 = (0, 14) := by kernel_rfl
theorem w2 : exprT wCols wE2 = (0, 16) := by kernel_rfl
end Go.Proofs.YtifeonoehfffmaaGreatDoor
namespace Go.Proofs.YtifeonoehfffmaaGreatDoor
open Go.Ab Go.Tb
set_option maxRecDepth 10000
attribute [local irreducible] W WO Pu QS QB QL QF QV QV1 CH QE
end Go.Proofs.YtifeonoehfffmaaGreatDoor
namespace Go.Proofs.YtifeonoehfffmaaGreatDoor
open Go.Ab Go.Tb
set_option maxRecDepth 10000
attribute [local irreducible] W WO Pu QS QB QL QF QV QV1 CH QE
theorem rempty_fn (e : Ex) : Does Tryz.prog 116 [.ag e.c] (.d (.v (.bool (zeroE e)))) 0 := by
 refine Does.of_W (n := 23) (ts := [2]) Tryz.func116 (by kernel_rfl) rfl Tryz.ntmps116 Tryz.results116 rfl rfl fun C hC hG => ?_
 have hkl := Ex.kc_len e
 refine W.seq (W.region ?_)
 refine boxR rfl rfl rfl ?_
 refine pE rfl ?_
 refine WO.nil (qs (W.seq ?_))
 apply regionB; (case hb => rfl)
 ·
  refine pE rfl ?_
  first | refine pE rfl ?_ | refine pR rfl rfl rfl rfl rfl ?_ | refine pB rfl rfl rfl rfl rfl rfl ?_
  iterate 2 refine pE rfl ?_
  apply splitJ; (case hj => rfl); (case hl => rfl)
  ·
   refine goG rfl rfl ?_
   refine pE rfl ?_
   refine goG rfl rfl ?_
   first | refine pE rfl ?_ | refine pR rfl rfl rfl rfl rfl ?_ | refine pB rfl rfl rfl rfl rfl rfl ?_
   refine goG rfl rfl ?_
   iterate 3 refine pE rfl ?_
   apply splitJ; (case hj => rfl); (case hl => rfl)
   ·
    refine goG rfl rfl ?_
    refine pE rfl ?_
    refine goG rfl rfl ?_
    first | refine pE rfl ?_ | refine pR rfl rfl rfl rfl rfl ?_ | refine pB rfl rfl rfl rfl rfl rfl ?_
    refine goG rfl rfl ?_
    refine pu (build tab rfl rfl rfl rfl) rfl ?_
    refine goG rfl rfl ?_
    iterate 3 refine pE rfl ?_
    apply splitJ; (case hj => rfl); (case hl => rfl)
    ·
     refine goG rfl rfl ?_
     refine pE rfl ?_
     refine goG rfl rfl ?_
     first | refine pE rfl ?_ | refine pR rfl rfl rfl rfl rfl ?_ | refine pB rfl rfl rfl rfl rfl rfl ?_
     refine goG rfl rfl ?_
     refine pE rfl ?_
     refine goG rfl rfl ?_
     iterate 3 refine pE rfl ?_
     refine WO.nil ?_
     refine qv1 rfl rfl rfl
    ·
     iterate 4 refine skipT rfl rfl rfl rfl ?_
     iterate 2 refine pE rfl ?_
     refine WO.nil ?_
     refine qv1 rfl rfl rfl
   ·
    iterate 4 refine skipT rfl rfl rfl rfl ?_
    iterate 2 refine pE rfl ?_
    iterate 4 refine skipT rfl rfl rfl rfl ?_
    iterate 2 refine pE rfl ?_
    refine WO.nil ?_
    refine qv1 rfl rfl rfl
  ·
   iterate 3 refine skipT rfl rfl rfl rfl ?_
   iterate 2 refine pE rfl ?_
   iterate 4 refine skipT rfl rfl rfl rfl ?_
   iterate 2 refine pE rfl ?_
   iterate 4 refine skipT rfl rfl rfl rfl ?_
   iterate 2 refine pE rfl ?_
   refine WO.nil ?_
   refine qv1 rfl rfl rfl
 refine qs (W.ret ?_)
 refine QF.ret0 trivial rfl ?_
 simp only [norm, oneA, zeroE, zeroV, hkl, Int.natCast_eq_zero]; grind
def unusedB (s : Stp) : Bool :=
 !(!decide (s.op = 1) && !zeroE s.cond) && !(!decide (s.op = 2) && decide (0 < s.items.length)) && !(!decide (s.op = 3) && decide (0 < s.aggs.length)) &&
 !(!decide (s.op = 4) && decide (0 < s.sorts.length)) && !(!decide (s.op = 5) && !decide (s.n = 0)) && !(!tableOp s.op && !decide (s.table = B #[])) &&
 (decide (s.op = 3) || tableOp s.op || decide (s.op = 9) || decide (s.cols.length = 0))
theorem usesB_eq (s : Stp) : usesB s = (!(decide (s.op < 1) || decide (9 < s.op)) && unusedB s) := by
 unfold usesB unusedB
 simp only [Bool.and_assoc]
theorem runused_fn (s : Stp) : Does Tryz.prog 80 [.ag s.c] (.d (.v (.bool (unusedB s)))) 0 := by
 refine Does.of_W (n := 85) (ts := [2]) Tryz.func80 (by kernel_rfl) rfl Tryz.ntmps80 Tryz.results80 rfl rfl fun C hC hG => ?_
 refine W.seq (W.region ?_)
 refine boxR rfl rfl rfl ?_
 refine pE rfl ?_
 refine WO.nil (qs (W.seq (W.region ?_)))
 refine pE rfl ?_
 first | refine pE rfl ?_ | refine pR rfl rfl rfl rfl rfl ?_ | refine pB rfl rfl rfl rfl rfl rfl ?_
 refine pE rfl ?_
 refine WO.nil (qs ?_)
 iterate 2 refine W.seq ?_
 apply regionB; (case hb => rfl)
 ·
  iterate 3 refine pE rfl ?_
  apply splitJ; (case hj => rfl); (case hl => rfl)
  ·
   refine goG rfl rfl ?_
   refine pE rfl ?_
   refine goG rfl rfl ?_
   first | refine pE rfl ?_ | refine pR rfl rfl rfl rfl rfl ?_ | refine pB rfl rfl rfl rfl rfl rfl ?_
   refine goG rfl rfl ?_
   refine pu (puCall rfl rfl rfl (rempty_fn s.cond) rfl) rfl ?_
   refine goG rfl rfl ?_
   iterate 3 refine pE rfl ?_
   apply splitJ; (case hj => rfl); (case hl => rfl)
   ·
    iterate 3 refine skipT rfl rfl rfl rfl ?_
    iterate 4 refine skipU rfl rfl rfl ?_
    refine skipT rfl rfl rfl rfl ?_
    iterate 2 refine pE rfl ?_
    iterate 3 refine skipT rfl rfl rfl rfl ?_
    iterate 4 refine skipU rfl rfl rfl ?_
    refine skipT rfl rfl rfl rfl ?_
    refine pE rfl ?_
    refine WO.nil ?_
    refine qv1 rfl rfl rfl
   ·
    refine goG rfl rfl ?_
    refine pE rfl ?_
    refine goG rfl rfl ?_
    refine pE rfl ?_
    refine goG rfl rfl ?_
    refine pE rfl ?_
    apply splitJ; (case hj => rfl); (case hl => rfl)
    ·
     refine goG rfl rfl ?_
     refine pE rfl ?_
     refine goG rfl rfl ?_
     first | refine pE rfl ?_ | refine pR rfl rfl rfl rfl rfl ?_ | refine pB rfl rfl rfl rfl rfl rfl ?_
     refine goG rfl rfl ?_
     refine pE rfl ?_
     refine goG rfl rfl ?_
     refine pE rfl ?_
     refine goG rfl rfl ?_
     iterate 3 refine pE rfl ?_
     apply splitJ; (case hj => rfl); (case hl => rfl)
     ·
      iterate 3 refine skipT rfl rfl rfl rfl ?_
      iterate 4 refine skipU rfl rfl rfl ?_
      refine skipT rfl rfl rfl rfl ?_
      refine pE rfl ?_
      refine WO.nil ?_
      refine qv1 rfl rfl rfl
     ·
      refine goG rfl rfl ?_
      refine pE rfl ?_
      refine goG rfl rfl ?_
      refine pE rfl ?_
      refine goG rfl rfl ?_
      refine pE rfl ?_
      apply splitJ; (case hj => rfl); (case hl => rfl)
      ·
       refine goG rfl rfl ?_
       refine pE rfl ?_
       refine goG rfl rfl ?_
       first | refine pE rfl ?_ | refine pR rfl rfl rfl rfl rfl ?_ | refine pB rfl rfl rfl rfl rfl rfl ?_
       refine goG rfl rfl ?_
       refine pE rfl ?_
       refine goG rfl rfl ?_
       refine pE rfl ?_
       refine goG rfl rfl ?_
       iterate 2 refine pE rfl ?_
       refine WO.nil ?_
       refine qv1 rfl rfl rfl
      ·
       iterate 4 refine skipT rfl rfl rfl rfl ?_
       refine goG rfl rfl ?_
       iterate 2 refine pE rfl ?_
       refine WO.nil ?_
       refine qv1 rfl rfl rfl
    ·
     iterate 4 refine skipT rfl rfl rfl rfl ?_
     refine goG rfl rfl ?_
     iterate 3 refine pE rfl ?_
     refine goG rfl rfl ?_
     refine pE rfl ?_
     refine goG rfl rfl ?_
     refine pE rfl ?_
     refine goG rfl rfl ?_
     refine pE rfl ?_
     apply splitJ; (case hj => rfl); (case hl => rfl)
     ·
      refine goG rfl rfl ?_
      refine pE rfl ?_
      refine goG rfl rfl ?_
      first | refine pE rfl ?_ | refine pR rfl rfl rfl rfl rfl ?_ | refine pB rfl rfl rfl rfl rfl rfl ?_
      refine goG rfl rfl ?_
      refine pE rfl ?_
      refine goG rfl rfl ?_
      refine pE rfl ?_
      refine goG rfl rfl ?_
      iterate 2 refine pE rfl ?_
      refine WO.nil ?_
      refine qv1 rfl rfl rfl
     ·
      iterate 4 refine skipT rfl rfl rfl rfl ?_
      refine goG rfl rfl ?_
      iterate 2 refine pE rfl ?_
      refine WO.nil ?_
      refine qv1 rfl rfl rfl
  ·
   iterate 4 refine skipT rfl rfl rfl rfl ?_
   iterate 2 refine pE rfl ?_
   refine goG rfl rfl ?_
   refine pE rfl ?_
   refine goG rfl rfl ?_
   refine pE rfl ?_
   refine goG rfl rfl ?_
   refine pE rfl ?_
   apply splitJ; (case hj => rfl); (case hl => rfl)
   ·
    refine goG rfl rfl ?_
    refine pE rfl ?_
    refine goG rfl rfl ?_
    first | refine pE rfl ?_ | refine pR rfl rfl rfl rfl rfl ?_ | refine pB rfl rfl rfl rfl rfl rfl ?_
    refine goG rfl rfl ?_
    refine pE rfl ?_
    refine goG rfl rfl ?_
    refine pE rfl ?_
    refine goG rfl rfl ?_
    iterate 3 refine pE rfl ?_
    apply splitJ; (case hj => rfl); (case hl => rfl)
    ·
     iterate 3 refine skipT rfl rfl rfl rfl ?_
     iterate 4 refine skipU rfl rfl rfl ?_
     refine skipT rfl rfl rfl rfl ?_
     refine pE rfl ?_
     refine WO.nil ?_
     refine qv1 rfl rfl rfl
    ·
     refine goG rfl rfl ?_
     refine pE rfl ?_
     refine goG rfl rfl ?_
     refine pE rfl ?_
     refine goG rfl rfl ?_
     refine pE rfl ?_
     apply splitJ; (case hj => rfl); (case hl => rfl)
     ·
      refine goG rfl rfl ?_
      refine pE rfl ?_
      refine goG rfl rfl ?_
      first | refine pE rfl ?_ | refine pR rfl rfl rfl rfl rfl ?_ | refine pB rfl rfl rfl rfl rfl rfl ?_
      refine goG rfl rfl ?_
      refine pE rfl ?_
      refine goG rfl rfl ?_
      refine pE rfl ?_
      refine goG rfl rfl ?_
      iterate 2 refine pE rfl ?_
      refine WO.nil ?_
      refine qv1 rfl rfl rfl
     ·
      iterate 4 refine skipT rfl rfl rfl rfl ?_
      refine goG rfl rfl ?_
      iterate 2 refine pE rfl ?_
      refine WO.nil ?_
      refine qv1 rfl rfl rfl
   ·
    iterate 4 refine skipT rfl rfl rfl rfl ?_
    refine goG rfl rfl ?_
    iterate 3 refine pE rfl ?_
    refine goG rfl rfl ?_
    refine pE rfl ?_
    refine goG rfl rfl ?_
    refine pE rfl ?_
    refine goG rfl rfl ?_
    refine pE rfl ?_
    apply splitJ; (case hj => rfl); (case hl => rfl)
    ·
     refine goG rfl rfl ?_
     refine pE rfl ?_
     refine goG rfl rfl ?_
     first | refine pE rfl ?_ | refine pR rfl rfl rfl rfl rfl ?_ | refine pB rfl rfl rfl rfl rfl rfl ?_
     refine goG rfl rfl ?_
     refine pE rfl ?_
     refine goG rfl rfl ?_
     refine pE rfl ?_
     refine goG rfl rfl ?_
     iterate 2 refine pE rfl ?_
     refine WO.nil ?_
     refine qv1 rfl rfl rfl
    ·
     iterate 4 refine skipT rfl rfl rfl rfl ?_
     refine goG rfl rfl ?_
     iterate 2 refine pE rfl ?_
     refine WO.nil ?_
     refine qv1 rfl rfl rfl
 refine qs ?_
 refine condK rfl (fun h34 => ?_) (fun h34 => ?_)
 ·
  refine W.seq (W.region ?_)
  refine pE rfl ?_
  refine WO.nil (qs (W.ret (qsRet ?_)))
  refine QF.ret0 trivial rfl ?_
  simp only [norm, oneA, List.length_map] at *; congr 3; simp only [unusedB, tableOp]; grind (splits := 60)
 ·
  refine W.skip (qs ?_)
  iterate 2 refine W.seq ?_
  apply regionB; (case hb => rfl)
  ·
   iterate 3 refine pE rfl ?_
   apply splitJ; (case hj => rfl); (case hl => rfl)
   ·
    refine goG rfl rfl ?_
    refine pE rfl ?_
    refine goG rfl rfl ?_
    first | refine pE rfl ?_ | refine pR rfl rfl rfl rfl rfl ?_ | refine pB rfl rfl rfl rfl rfl rfl ?_
    refine goG rfl rfl ?_
    refine pE rfl ?_
    refine goG rfl rfl ?_
    iterate 3 refine pE rfl ?_
    apply splitJ; (case hj => rfl); (case hl => rfl)
    ·
     iterate 3 refine skipT rfl rfl rfl rfl ?_
     iterate 3 refine skipU rfl rfl rfl ?_
     refine skipT rfl rfl rfl rfl ?_
     refine pE rfl ?_
     refine WO.nil ?_
     refine qv1 rfl rfl rfl
    ·
     refine goG rfl rfl ?_
     refine pE rfl ?_
     refine goG rfl rfl ?_
     refine pE rfl ?_
     refine goG rfl rfl ?_
     refine pE rfl ?_
     apply splitJ; (case hj => rfl); (case hl => rfl)
     ·
      refine goG rfl rfl ?_
      refine pE rfl ?_
      refine goG rfl rfl ?_
      first | refine pE rfl ?_ | refine pR rfl rfl rfl rfl rfl ?_ | refine pB rfl rfl rfl rfl rfl rfl ?_
      refine goG rfl rfl ?_
      refine pE rfl ?_
      refine goG rfl rfl ?_
      iterate 2 refine pE rfl ?_
      refine WO.nil ?_
      refine qv1 rfl rfl rfl
     ·
      iterate 3 refine skipT rfl rfl rfl rfl ?_
      refine goG rfl rfl ?_
      iterate 2 refine pE rfl ?_
      refine WO.nil ?_
      refine qv1 rfl rfl rfl
   ·
    iterate 4 refine skipT rfl rfl rfl rfl ?_
    iterate 2 refine pE rfl ?_
    refine goG rfl rfl ?_
    refine pE rfl ?_
    refine goG rfl rfl ?_
    refine pE rfl ?_
    refine goG rfl rfl ?_
    refine pE rfl ?_
    apply splitJ; (case hj => rfl); (case hl => rfl)
    ·
     refine goG rfl rfl ?_
     refine pE rfl ?_
     refine goG rfl rfl ?_
     first | refine pE rfl ?_ | refine pR rfl rfl rfl rfl rfl ?_ | refine pB rfl rfl rfl rfl rfl rfl ?_
     refine goG rfl rfl ?_
     refine pE rfl ?_
     refine goG rfl rfl ?_
     iterate 2 refine pE rfl ?_
     refine WO.nil ?_
     refine qv1 rfl rfl rfl
    ·
     iterate 3 refine skipT rfl rfl rfl rfl ?_
     refine goG rfl rfl ?_
     iterate 2 refine pE rfl ?_
     refine WO.nil ?_
     refine qv1 rfl rfl rfl
  refine qs ?_
  refine condK rfl (fun h51 => ?_) (fun h51 => ?_)
  ·
   refine W.seq (W.region ?_)
   refine pE rfl ?_
   refine WO.nil (qs (W.ret (qsRet ?_)))
   refine QF.ret0 trivial rfl ?_
   simp only [norm, oneA, List.length_map] at *; congr 3; simp only [unusedB, tableOp]; grind (splits := 60)
  ·
   refine W.skip (qs (W.seq ?_))
   apply regionB; (case hb => rfl)
   ·
    iterate 3 refine pE rfl ?_
    apply splitJ; (case hj => rfl); (case hl => rfl)
    ·
     iterate 2 refine skipT rfl rfl rfl rfl ?_
     iterate 2 refine pE rfl ?_
     iterate 2 refine skipT rfl rfl rfl rfl ?_
     iterate 2 refine pE rfl ?_
     refine WO.nil ?_
     refine qv1 rfl rfl rfl
    ·
     refine goG rfl rfl ?_
     refine pE rfl ?_
     refine goG rfl rfl ?_
     iterate 3 refine pE rfl ?_
     apply splitJ; (case hj => rfl); (case hl => rfl)
     ·
      iterate 2 refine skipT rfl rfl rfl rfl ?_
      iterate 2 refine pE rfl ?_
      refine WO.nil ?_
      refine qv1 rfl rfl rfl
     ·
      refine goG rfl rfl ?_
      refine pE rfl ?_
      refine goG rfl rfl ?_
      iterate 3 refine pE rfl ?_
      refine WO.nil ?_
      refine qv1 rfl rfl rfl
   refine qs (W.seq ?_)
   apply regionB; (case hb => rfl)
   ·
    iterate 2 refine pE rfl ?_
    apply splitJ; (case hj => rfl); (case hl => rfl)
    ·
     iterate 3 refine skipT rfl rfl rfl rfl ?_
     iterate 2 refine pE rfl ?_
     refine goG rfl rfl ?_
     refine pE rfl ?_
     refine goG rfl rfl ?_
     refine pE rfl ?_
     apply splitJ; (case hj => rfl); (case hl => rfl)
     ·
      iterate 2 refine skipT rfl rfl rfl rfl ?_
      refine goG rfl rfl ?_
      refine pE rfl ?_
      refine goG rfl rfl ?_
      refine pE rfl ?_
      iterate 2 refine skipT rfl rfl rfl rfl ?_
      refine goG rfl rfl ?_
      refine pE rfl ?_
      refine goG rfl rfl ?_
      refine pE rfl ?_
      iterate 4 refine skipT rfl rfl rfl rfl ?_
      refine goG rfl rfl ?_
      iterate 3 refine pE rfl ?_
      refine WO.nil ?_
      refine qv1 rfl rfl rfl
     ·
      refine goG rfl rfl ?_
      refine pE rfl ?_
      refine goG rfl rfl ?_
      refine pE rfl ?_
      refine goG rfl rfl ?_
      refine pE rfl ?_
      refine goG rfl rfl ?_
      refine pE rfl ?_
      apply splitJ; (case hj => rfl); (case hl => rfl)
      ·
       iterate 2 refine skipT rfl rfl rfl rfl ?_
       refine goG rfl rfl ?_
       refine pE rfl ?_
       refine goG rfl rfl ?_
       refine pE rfl ?_
       iterate 4 refine skipT rfl rfl rfl rfl ?_
       refine goG rfl rfl ?_
       iterate 3 refine pE rfl ?_
       refine WO.nil ?_
       refine qv1 rfl rfl rfl
      ·
       refine goG rfl rfl ?_
       refine pE rfl ?_
       refine goG rfl rfl ?_
       refine pE rfl ?_
       refine goG rfl rfl ?_
       refine pE rfl ?_
       refine goG rfl rfl ?_
       refine pE rfl ?_
       apply splitJ; (case hj => rfl); (case hl => rfl)
       ·
        iterate 4 refine skipT rfl rfl rfl rfl ?_
        refine goG rfl rfl ?_
        iterate 3 refine pE rfl ?_
        refine WO.nil ?_
        refine qv1 rfl rfl rfl
       ·
        refine goG rfl rfl ?_
        refine pE rfl ?_
        refine goG rfl rfl ?_
        first | refine pE rfl ?_ | refine pR rfl rfl rfl rfl rfl ?_ | refine pB rfl rfl rfl rfl rfl rfl ?_
        refine goG rfl rfl ?_
        refine pE rfl ?_
        refine goG rfl rfl ?_
        refine pE rfl ?_
        refine goG rfl rfl ?_
        iterate 3 refine pE rfl ?_
        refine WO.nil ?_
        refine qv1 rfl rfl rfl
    ·
     refine goG rfl rfl ?_
     refine pE rfl ?_
     refine goG rfl rfl ?_
     first | refine pE rfl ?_ | refine pR rfl rfl rfl rfl rfl ?_ | refine pB rfl rfl rfl rfl rfl rfl ?_
     refine goG rfl rfl ?_
     iterate 3 refine pE rfl ?_
     apply splitJ; (case hj => rfl); (case hl => rfl)
     ·
      refine goG rfl rfl ?_
      refine pE rfl ?_
      refine goG rfl rfl ?_
      refine pE rfl ?_
      apply splitJ; (case hj => rfl); (case hl => rfl)
      ·
       iterate 2 refine skipT rfl rfl rfl rfl ?_
       refine goG rfl rfl ?_
       refine pE rfl ?_
       refine goG rfl rfl ?_
       refine pE rfl ?_
       iterate 2 refine skipT rfl rfl rfl rfl ?_
       refine goG rfl rfl ?_
       refine pE rfl ?_
       refine goG rfl rfl ?_
       refine pE rfl ?_
       iterate 4 refine skipT rfl rfl rfl rfl ?_
       refine goG rfl rfl ?_
       iterate 3 refine pE rfl ?_
       refine WO.nil ?_
       refine qv1 rfl rfl rfl
      ·
       refine goG rfl rfl ?_
       refine pE rfl ?_
       refine goG rfl rfl ?_
       refine pE rfl ?_
       refine goG rfl rfl ?_
       refine pE rfl ?_
       refine goG rfl rfl ?_
       refine pE rfl ?_
       apply splitJ; (case hj => rfl); (case hl => rfl)
       ·
        iterate 2 refine skipT rfl rfl rfl rfl ?_
        refine goG rfl rfl ?_
        refine pE rfl ?_
        refine goG rfl rfl ?_
        refine pE rfl ?_
        iterate 4 refine skipT rfl rfl rfl rfl ?_
        refine goG rfl rfl ?_
        iterate 3 refine pE rfl ?_
        refine WO.nil ?_
        refine qv1 rfl rfl rfl
       ·
        refine goG rfl rfl ?_
        refine pE rfl ?_
        refine goG rfl rfl ?_
        refine pE rfl ?_
        refine goG rfl rfl ?_
        refine pE rfl ?_
        refine goG rfl rfl ?_
        refine pE rfl ?_
        apply splitJ; (case hj => rfl); (case hl => rfl)
        ·
         iterate 4 refine skipT rfl rfl rfl rfl ?_
         refine goG rfl rfl ?_
         iterate 3 refine pE rfl ?_
         refine WO.nil ?_
         refine qv1 rfl rfl rfl
        ·
         refine goG rfl rfl ?_
         refine pE rfl ?_
         refine goG rfl rfl ?_
         first | refine pE rfl ?_ | refine pR rfl rfl rfl rfl rfl ?_ | refine pB rfl rfl rfl rfl rfl rfl ?_
         refine goG rfl rfl ?_
         refine pE rfl ?_
         refine goG rfl rfl ?_
         refine pE rfl ?_
         refine goG rfl rfl ?_
         iterate 3 refine pE rfl ?_
         refine WO.nil ?_
         refine qv1 rfl rfl rfl
     ·
      iterate 2 refine skipT rfl rfl rfl rfl ?_
      iterate 2 refine skipU rfl rfl rfl ?_
      iterate 2 refine skipT rfl rfl rfl rfl ?_
      iterate 2 refine skipU rfl rfl rfl ?_
      iterate 2 refine skipT rfl rfl rfl rfl ?_
      iterate 4 refine skipU rfl rfl rfl ?_
      refine skipT rfl rfl rfl rfl ?_
      iterate 2 refine pE rfl ?_
      refine WO.nil ?_
      refine qv1 rfl rfl rfl
   refine qs (W.ret ?_)
   refine QF.ret0 trivial rfl ?_
   simp only [norm, oneA, List.length_map] at *; congr 3; simp only [unusedB, tableOp]; grind (splits := 60)
theorem rnames_fn (l : List ByteArray) : Does Tryz.prog 84 [.d (.sl (l.map sc))] (.d (.v (.int .i64 (allErr [] l)))) 0 := by
 refine Does.of_W (n := 31) (ts := [2]) Tryz.func84 (by kernel_rfl) rfl Tryz.ntmps84 Tryz.results84 rfl rfl fun C hC hG => ?_
 refine W.seq (W.region ?_)
 refine pE rfl ?_
 refine WO.nil (qs ?_)
 iterate 2 refine W.seq ?_
 refine W.region ?_
 refine pE rfl ?_
 refine WO.nil (qs (W.block ?_))
 refine W.len (t := 0) rfl rfl (fun hlen => ?_)
 try simp only [List.length_map, Ex.kc_len] at hlen
 refine W.loopR (ι := {x : Nat // match x with | k => k ≤ l.length ∧ allErr (l.take k) (l.drop k) = allErr [] l})
  (fun x => match x.1 with | k => [(3, .d (.v (.int .i64 ((k : Nat) : Int))))]) [(0, _)]
  (fun x => match x.1 with | k => []) [] [] 0 (fun x => match x.1 with | k => l.length - k)
  [] ⟨0, ?_⟩ rfl ?_ ⟨rfl, rfl, trivial⟩ ?_ trivial rfl ?_
 · first | exact ⟨Nat.zero_le _, rfl⟩ | exact trivial | simp
 · repeat' first | exact trivial | refine ⟨rfl, ?_⟩ | refine ⟨step_nat (by assumption) (by assumption), ?_⟩
 · repeat' first | exact trivial | refine ⟨rfl, ?_⟩ | refine ⟨step_nat (by assumption) (by assumption), ?_⟩
 rintro ⟨k, hk, hI⟩
 show W _ _ _ _ _ ⟨[(3, .d (.v (.int .i64 ((k : Nat) : Int)))), (0, _)], [], [], 0⟩
 iterate 2 refine W.seq ?_
 refine W.region ?_
 iterate 4 refine pE rfl ?_
 refine WO.nil (qs ?_)
 refine eachR (l := l) (k := k) rfl (by simp [Ex.kc_len, bytes_len]) hk (fun z hx hd hlt => ?_) (fun he hd => ?_)
 ·
  rw [hd] at hI
  simp only [allErr] at hI
  have hxk := hx
  have hltk := hlt
  refine W.skip (qs (W.seq (W.block ?_)))
  iterate 2 refine W.seq ?_
  refine W.region ?_
  iterate 2 refine pE rfl ?_
  refine pu (indexAddr tab rfl rfl rfl rfl rfl rfl (Int.natCast_nonneg _) (idx_map hx) rfl) rfl ?_
  first | refine pE rfl ?_ | refine pR rfl rfl rfl rfl rfl ?_ | refine pB rfl rfl rfl rfl rfl rfl ?_
  refine pu (puCall rfl rfl rfl (ident_fn ..) rfl) rfl ?_
  refine pE rfl ?_
  refine WO.nil (qs ?_)
  refine condK rfl (fun h16 => ?_) (fun h16 => ?_)
  ·
   have h16 : identB z = false := by simpa using h16
   have hB : addErr (l.take k) z = 3 := by unfold addErr; rw [if_pos h16]
   simp only [hB] at hI
   rw [if_pos (by decide)] at hI
   refine W.seq (W.region ?_)
   refine pE rfl ?_
   refine WO.nil (qs (W.ret (qsRet (qbRet (qsRet (qlRet (qbRet (qsRet ?_))))))))
   refine QF.ret0 trivial rfl ?_
   rw [← hI]; rfl
  ·
   have h16 : identB z = true := by simpa using h16
   have hA : addErr (l.take k) z = if (l.take k).any (fun y => decide (z = y)) then 4 else 0 := by unfold addErr; rw [if_neg (by simp [h16])]
   refine W.skip (qs (W.seq (W.region ?_)))
   refine pE rfl ?_
   refine WO.nil (qs (W.block ?_))
   refine W.loopR (ι := {x : Nat // match x with | j => j ≤ k ∧ ((l.take k).drop j).any (fun y => decide (z = y)) = (l.take k).any (fun y => decide (z = y))})
    (fun x => match x.1 with | j => [(4, .d (.v (.int .i64 ((j : Nat) : Int))))]) [(0, _), (3, _)]
    (fun x => match x.1 with | j => []) [] [] 0 (fun x => match x.1 with | j => k - j)
    [] ⟨0, ?_⟩ rfl ?_ ⟨rfl, rfl, rfl, rfl, trivial⟩ ?_ trivial rfl ?_
   · first | exact ⟨Nat.zero_le _, rfl⟩ | exact trivial | simp
   · repeat' first | exact trivial | refine ⟨rfl, ?_⟩ | refine ⟨step_nat (by assumption) (by assumption), ?_⟩
   · repeat' first | exact trivial | refine ⟨rfl, ?_⟩ | refine ⟨step_nat (by assumption) (by assumption), ?_⟩
   rintro ⟨j, hk2, hJ⟩
   show W _ _ _ _ _ ⟨[(4, .d (.v (.int .i64 ((j : Nat) : Int)))), (0, _), (3, _)], [], [], 0⟩
   iterate 2 refine W.seq ?_
   refine W.region ?_
   iterate 3 refine pE rfl ?_
   refine WO.nil (qs ?_)
   refine condK rfl (fun h19 => ?_) (fun h19 => ?_)
   ·
    have hjk : j < k := by simp at h19; omega
    have hlt : j < l.length := by omega
    obtain ⟨y, hy, hyd⟩ := exAt (l := l.take k) (k := j) (by simp; omega)
    have hyl : l[j]? = some y := by rw [List.getElem?_take, if_pos hjk] at hy; exact hy
    rw [hyd, List.any_cons] at hJ
    refine W.skip (qs (W.seq (W.block (W.seq ?_))))
    refine W.regionD tab (by kernel_rfl) ?_
    iterate 2 refine chPu (ev tab rfl) rfl ?_
    refine chPu (indexAddr tab rfl rfl rfl rfl rfl rfl (Int.natCast_nonneg _) (idx_map hyl) rfl) rfl ?_
    first | refine chPu (ev tab rfl) rfl ?_ | refine chPu (loadRow tab rfl rfl rfl rfl) rfl ?_ | refine chPu (loadBox tab rfl rfl rfl rfl rfl) rfl ?_
    iterate 2 refine chPu (ev tab rfl) rfl ?_
    refine chPu (indexAddr tab rfl rfl rfl rfl rfl rfl (Int.natCast_nonneg _) (idx_map hxk) rfl) rfl ?_
    first | refine chPu (ev tab rfl) rfl ?_ | refine chPu (loadRow tab rfl rfl rfl rfl) rfl ?_ | refine chPu (loadBox tab rfl rfl rfl rfl rfl) rfl ?_
    refine chPu (ev tab rfl) rfl ?_
    refine CH.nil ?_
    refine qs ?_
    refine condK rfl (fun h30 => ?_) (fun h30 => ?_)
    ·
     have h30 : decide (z = y) = true := by simp at h30 ⊢; exact h30.symm
     rw [h30, Bool.true_or] at hJ
     rw [← hJ] at hA
     simp only [hA] at hI
     rw [if_pos (by decide)] at hI
     refine W.seq (W.region ?_)
     refine pE rfl ?_
     refine WO.nil (qs (W.ret (qbRet (qsRet (qlRet (qbRet (qbRet (qsRet (qlRet (qbRet (qsRet ?_)))))))))))
     refine QF.ret0 trivial rfl ?_
     rw [← hI]; rfl
    ·
     have h30 : decide (z = y) = false := by simp at h30 ⊢; exact fun h => h30 h.symm
     rw [h30, Bool.false_or] at hJ
     refine W.skip (qbN (qs (W.region ?_)))
     iterate 3 refine pE rfl ?_
     refine WO.nil ?_
     refine W.endR [] ⟨j + 1, ?_⟩ ?_ rfl ?_ ⟨rfl, rfl, rfl, rfl, trivial⟩ ?_ trivial rfl
     · exact ⟨hjk, hJ⟩
     · show k - (j + 1) < k - j; omega
     · repeat' first | exact trivial | refine ⟨rfl, ?_⟩ | refine ⟨step_nat (by assumption) (by assumption), ?_⟩
     · repeat' first | exact trivial | refine ⟨rfl, ?_⟩ | refine ⟨step_nat (by assumption) (by assumption), ?_⟩
   ·
    have hjk : j = k := by simp at h19; omega
    rw [dropEnd (l := l.take k) (k := j) (by simp; omega), List.any_nil] at hJ
    rw [← hJ] at hA
    simp only [hA] at hI
    rw [if_neg (by decide)] at hI
    refine W.exit (qsExit (qlExit (qbExit (qbN (qs (W.region ?_))))))
    iterate 3 refine pE rfl ?_
    refine WO.nil ?_
    refine W.endR [] ⟨k + 1, ?_⟩ ?_ rfl ?_ ⟨rfl, rfl, trivial⟩ ?_ trivial rfl
    · exact ⟨hltk, by rw [List.take_add_one, hxk]; exact hI⟩
    · show l.length - (k + 1) < l.length - k; omega
    ·
     have hlt := hltk
     repeat' first | exact trivial | refine ⟨rfl, ?_⟩ | refine ⟨step_nat (by assumption) (by assumption), ?_⟩
    · repeat' first | exact trivial | refine ⟨rfl, ?_⟩ | refine ⟨step_nat (by assumption) (by assumption), ?_⟩
 ·
  rw [hd] at hI
  simp only [allErr] at hI
  refine W.exit (qsExit (qlExit (qbExit (qs (W.seq (W.region ?_))))))
  refine pE rfl ?_
  refine WO.nil (qs (W.ret ?_))
  refine QF.ret0 trivial rfl ?_
  rw [← hI]; rfl
theorem rsorts_fn (l : List Srt) (h : l.length ≤ 100000) : Does Tryz.prog 85 [.d (.sl (l.map Srt.c))] (.d (.sl ((l.map Srt.col).map sc))) 0 := by
 refine Does.of_W (n := 20) (ts := [2]) Tryz.func85 (by kernel_rfl) rfl Tryz.ntmps85 Tryz.results85 rfl rfl fun C hC hG => ?_
 refine W.seq (W.region ?_)
 refine pE rfl ?_
 refine WO.nil (qs (W.seq (W.region ?_)))
 refine pE rfl ?_
 refine WO.nil (qs ?_)
 iterate 2 refine W.seq ?_
 refine W.region ?_
 refine pE rfl ?_
 refine WO.nil (qs (W.block ?_))
 refine ownNilR (d := 3) rfl rfl ?_
 refine W.len (t := 0) rfl rfl (fun hlen => ?_)
 try simp only [List.length_map, Ex.kc_len] at hlen
 refine W.loopR (ι := {x : Nat × List ByteArray // match x with | (k, ns) => k ≤ l.length ∧ ns = (l.take k).map Srt.col})
  (fun x => match x.1 with | (k, ns) => [(3, .own 0 (ns.map sc)), (4, .d (.v (.int .i64 ((k : Nat) : Int))))]) [(0, _)]
  (fun x => match x.1 with | (k, ns) => []) [] [0] 1 (fun x => match x.1 with | (k, ns) => l.length - k)
  [0] ⟨(0, []), ?_⟩ rfl ?_ ⟨rfl, rfl, trivial⟩ ?_ trivial rfl ?_
 · exact ⟨Nat.zero_le _, rfl⟩
 · repeat' first | exact trivial | refine ⟨rfl, ?_⟩ | refine ⟨step_nat (by assumption) (by assumption), ?_⟩
 · repeat' first | exact trivial | refine ⟨rfl, ?_⟩ | refine ⟨step_nat (by assumption) (by assumption), ?_⟩
 rintro ⟨⟨k, ns⟩, hk, hI⟩
 show W _ _ _ _ _ ⟨[(3, .own 0 (ns.map sc)), (4, .d (.v (.int .i64 ((k : Nat) : Int)))), (0, _)], [], [0], 1⟩
 iterate 2 refine W.seq ?_
 refine W.region ?_
 iterate 4 refine pE rfl ?_
 refine WO.nil (qs ?_)
 refine eachR (l := l) (k := k) rfl (by simp [Ex.kc_len, bytes_len]) hk (fun x hx hd hlt => ?_) (fun he hd => ?_)
 ·
  have hnl : ns.length = k := by rw [hI]; simp; omega
  refine W.skip (qs (W.seq (W.block (W.region ?_))))
  iterate 3 refine pE rfl ?_
  refine pu (indexAddr tab rfl rfl rfl rfl rfl rfl (Int.natCast_nonneg _) (idx_map hx) rfl) rfl ?_
  refine pE rfl ?_
  first | refine pE rfl ?_ | refine pR rfl rfl rfl rfl rfl ?_ | refine pB rfl rfl rfl rfl rfl rfl ?_
  refine pu (buildV tab rfl rfl rfl rfl rfl rfl rfl rfl rfl) rfl ?_
  refine appendM tab rfl rfl rfl rfl rfl rfl rfl rfl rfl rfl (fun _ => rfl) (by show (ns.length + 1) * 16 ≤ _; omega) ?_
  refine pE rfl ?_
  refine WO.nil (qbN (qs (W.region ?_)))
  iterate 3 refine pE rfl ?_
  refine WO.nil ?_
  refine W.endR [1] ⟨(k + 1, ns ++ [x.col]), ?_⟩ ?_ rfl ?_ ⟨rfl, rfl, trivial⟩ ?_ trivial rfl
  · exact ⟨hlt, by rw [hI, List.take_add_one, hx]; simp⟩
  · dsimp only; omega
  · repeat' first | exact trivial | refine ⟨rfl, ?_⟩ | refine ⟨step_nat (by assumption) (by assumption), ?_⟩
  · repeat' first | exact trivial | refine ⟨rfl, ?_⟩ | refine ⟨step_nat (by assumption) (by assumption), ?_⟩
 ·
  have hns : ns = l.map Srt.col := by rw [hI, he, List.take_length]
  refine W.exit (qsExit (qlExit (qbExit (qs (W.seq (W.region ?_))))))
  iterate 2 refine pE rfl ?_
  refine WO.nil (qs (W.ret ?_))
  refine QF.ret0 trivial rfl ?_
  rw [← hns]; rfl
theorem rselects_fn (l : List Itm) (h : l.length ≤ 100000) : Does Tryz.prog 82 [.d (.sl (l.map Itm.c))] (.d (.v (.int .i64 (selErr [] l)))) 0 := by
 refine Does.of_W (n := 33) (ts := [2]) Tryz.func82 (by kernel_rfl) rfl Tryz.ntmps82 Tryz.results82 rfl rfl fun C hC hG => ?_
 refine W.seq (W.region ?_)
 refine pE rfl ?_
 refine WO.nil (qs (W.seq (W.region ?_)))
 refine pE rfl ?_
 refine WO.nil (qs ?_)
 iterate 2 refine W.seq ?_
 refine W.region ?_
 refine pE rfl ?_
 refine WO.nil (qs (W.block ?_))
 refine ownNilR (d := 3) rfl rfl ?_
 refine W.len (t := 0) rfl rfl (fun hlen => ?_)
 try simp only [List.length_map, Ex.kc_len] at hlen
 refine W.loopR (ι := {x : Nat × List ByteArray // match x with | (k, ns) => k ≤ l.length ∧ selErr ns (l.drop k) = selErr [] l ∧ ns.length = k ∧ allErr [] ns = 0})
  (fun x => match x.1 with | (k, ns) => [(3, .own 0 (ns.map sc)), (4, .d (.v (.int .i64 ((k : Nat) : Int))))]) [(0, _)]
  (fun x => match x.1 with | (k, ns) => []) [] [0] 1 (fun x => match x.1 with | (k, ns) => l.length - k)
  [0] ⟨(0, []), ?_⟩ rfl ?_ ⟨rfl, rfl, trivial⟩ ?_ trivial rfl ?_
 · exact ⟨Nat.zero_le _, rfl, rfl, rfl⟩
 · repeat' first | exact trivial | refine ⟨rfl, ?_⟩ | refine ⟨step_nat (by assumption) (by assumption), ?_⟩
 · repeat' first | exact trivial | refine ⟨rfl, ?_⟩ | refine ⟨step_nat (by assumption) (by assumption), ?_⟩
 rintro ⟨⟨k, ns⟩, hk, hI, hL, hN⟩
 show W _ _ _ _ _ ⟨[(3, .own 0 (ns.map sc)), (4, .d (.v (.int .i64 ((k : Nat) : Int)))), (0, _)], [], [0], 1⟩
 iterate 2 refine W.seq ?_
 refine W.region ?_
 iterate 4 refine pE rfl ?_
 refine WO.nil (qs ?_)
 refine eachR (l := l) (k := k) rfl (by simp [Ex.kc_len, bytes_len]) hk (fun x hx hd hlt => ?_) (fun he hd => ?_)
 ·
  rw [hd] at hI
  simp only [selErr] at hI
  have hA : allErr [] (ns ++ [x.name]) = addErr ns x.name := allErr_append [] ns x.name hN
  refine W.skip (qs (W.seq (W.block (W.seq (W.region ?_)))))
  iterate 2 refine pE rfl ?_
  refine pu (indexAddr tab rfl rfl rfl rfl rfl rfl (Int.natCast_nonneg _) (idx_map hx) rfl) rfl ?_
  refine pE rfl ?_
  first | refine pE rfl ?_ | refine pR rfl rfl rfl rfl rfl ?_ | refine pB rfl rfl rfl rfl rfl rfl ?_
  refine pu (puCall rfl rfl rfl (rexpr_fn x.e) rfl) rfl ?_
  refine pE rfl ?_
  refine WO.nil (qs (W.seq (W.region ?_)))
  iterate 3 refine pE rfl ?_
  refine pu (indexAddr tab rfl rfl rfl rfl rfl rfl (Int.natCast_nonneg _) (idx_map hx) rfl) rfl ?_
  refine pE rfl ?_
  first | refine pE rfl ?_ | refine pR rfl rfl rfl rfl rfl ?_ | refine pB rfl rfl rfl rfl rfl rfl ?_
  refine pu (buildV tab rfl rfl rfl rfl rfl rfl rfl rfl rfl) rfl ?_
  refine appendM tab rfl rfl rfl rfl rfl rfl rfl rfl rfl rfl (fun _ => rfl) (by show (ns.length + 1) * 16 ≤ _; omega) ?_
  refine pE rfl ?_
  refine WO.nil (qs ?_)
  iterate 2 refine W.seq ?_
  refine W.region ?_
  iterate 2 refine pE rfl ?_
  refine WO.nil (qs ?_)
  refine condK rfl (fun h27 => ?_) (fun h27 => ?_)
  ·
   have h27 : ¬ (exprErr x.e ≠ 0) := by simpa using h27
   rw [if_neg h27] at hI
   refine W.region ?_
   refine pE rfl ?_
   refine pu (puCall rfl rfl rfl (rnames_fn (ns ++ [x.name])) rfl) rfl ?_
   refine pE rfl ?_
   refine WO.nil (qs (W.seq (W.region ?_)))
   iterate 2 refine pE rfl ?_
   refine WO.nil (qs ?_)
   refine condK rfl (fun h31 => ?_) (fun h31 => ?_)
   ·
    try rw [hA] at h31
    try rw [if_pos (by simpa using h31)] at hI
    refine W.seq (W.region ?_)
    iterate 2 refine pE rfl ?_
    refine WO.nil (qs (W.ret (qbRet (qsRet (qlRet (qbRet (qsRet ?_)))))))
    refine QF.ret0 trivial rfl ?_
    first | (rw [← hI]; rfl) | (rw [← hI, ← hA]; rfl)
   ·
    try rw [hA] at h31
    try rw [if_neg (by simpa using h31)] at hI
    refine W.skip (qbN (qs (W.region ?_)))
    iterate 3 refine pE rfl ?_
    refine WO.nil ?_
    refine W.endR [1] ⟨(k + 1, ns ++ [x.name]), ?_⟩ ?_ rfl ?_ ⟨rfl, rfl, trivial⟩ ?_ trivial rfl
    · first | exact ⟨hlt, hI, by simp [hL], by rw [hA]; simpa using h31⟩ | (exfalso; simp at h31; exact h27 h31)
    · dsimp only; omega
    · repeat' first | exact trivial | refine ⟨rfl, ?_⟩ | refine ⟨step_nat (by assumption) (by assumption), ?_⟩
    · repeat' first | exact trivial | refine ⟨rfl, ?_⟩ | refine ⟨step_nat (by assumption) (by assumption), ?_⟩
  ·
   have h27 : exprErr x.e ≠ 0 := by simpa using h27
   rw [if_pos h27] at hI
   refine W.skip (qs (W.seq (W.region ?_)))
   iterate 2 refine pE rfl ?_
   refine WO.nil (qs ?_)
   refine condK rfl (fun h31 => ?_) (fun h31 => ?_)
   ·
    try rw [hA] at h31
    try rw [if_pos (by simpa using h31)] at hI
    refine W.seq (W.region ?_)
    iterate 2 refine pE rfl ?_
    refine WO.nil (qs (W.ret (qbRet (qsRet (qlRet (qbRet (qsRet ?_)))))))
    refine QF.ret0 trivial rfl ?_
    first | (rw [← hI]; rfl) | (rw [← hI, ← hA]; rfl)
   ·
    try rw [hA] at h31
    try rw [if_neg (by simpa using h31)] at hI
    refine W.skip (qbN (qs (W.region ?_)))
    iterate 3 refine pE rfl ?_
    refine WO.nil ?_
    refine W.endR [1] ⟨(k + 1, ns ++ [x.name]), ?_⟩ ?_ rfl ?_ ⟨rfl, rfl, trivial⟩ ?_ trivial rfl
    · first | exact ⟨hlt, hI, by simp [hL], by rw [hA]; simpa using h31⟩ | (exfalso; simp at h31; exact h27 h31)
    · dsimp only; omega
    · repeat' first | exact trivial | refine ⟨rfl, ?_⟩ | refine ⟨step_nat (by assumption) (by assumption), ?_⟩
    · repeat' first | exact trivial | refine ⟨rfl, ?_⟩ | refine ⟨step_nat (by assumption) (by assumption), ?_⟩
 ·
  rw [hd] at hI
  simp only [selErr] at hI
  refine W.exit (qsExit (qlExit (qbExit (qs (W.seq (W.region ?_))))))
  refine pE rfl ?_
  refine WO.nil (qs (W.ret ?_))
  refine QF.ret0 trivial rfl ?_
  first | (rw [← hI]; rfl) | (rw [← hI, ← hA]; rfl)
end Go.Proofs.YtifeonoehfffmaaGreatDoor
namespace Go.Proofs.YtifeonoehfffmaaGreatDoor
open Go.Ab Go.Tb
set_option maxRecDepth 10000
attribute [local irreducible] W WO Pu QS QB QL QF QV QV1 CH QE
def groupsR (s : Stp) : Int := if allErr [] s.cols ≠ 0 then allErr [] s.cols else aggErr s.cols s.aggs
def shortB (s : Stp) : Bool := (decide (s.op = 2) && decide (s.items.length = 0)) || (decide (s.op = 3) && decide (s.cols.length + s.aggs.length = 0)) || (decide (s.op = 4) && decide (s.sorts.length = 0)) || (decide (s.op = 6) && decide (s.cols.length = 0))
def sizesE (s : Stp) : Int := if shortB s = true then 8 else if 16 < s.items.length ∨ 16 < s.cols.length ∨ 16 < s.aggs.length ∨ 16 < s.sorts.length then 7 else 0
def stepR (s : Stp) : Int :=
 if usesB s = false then 1 else if (tableOp s.op && !identB s.table) = true then 3 else if sizesE s ≠ 0 then sizesE s
 else if s.op = 1 then exprErr s.cond else if s.op = 2 then selErr [] s.items else if s.op = 3 then groupsR s else if s.op = 4 then allErr [] (s.sorts.map Srt.col)
 else if s.op = 5 then (if s.n < 0 ∨ 20000 < s.n then 2 else 0) else allErr [] s.cols
end Go.Proofs.YtifeonoehfffmaaGreatDoor
namespace Go.Proofs.YtifeonoehfffmaaGreatDoor
open Go.Ab Go.Tb
set_option maxRecDepth 10000
attribute [local irreducible] W WO Pu QS QB QL QF QV QV1 CH QE
theorem u8_is {b c : UInt8} : (b = c) ↔ b.toNat = c.toNat := ⟨fun h => by rw [h], fun h => UInt8.toNat_inj.1 h⟩
theorem bool_A {x y : Bool} (h : x = true ↔ y = true) : A.d (D.v (Value.bool x)) = A.d (D.v (Value.bool y)) := by rw [Bool.eq_iff_iff.2 h]
theorem isLetter_fn (b : UInt8) : Does Tryz.prog 127 [.d (.v (.int .u8 b.toNat))] (.d (.v (.bool (letB b)))) 0 := by
 refine Does.of_W (n := 9) (ts := [2]) Tryz.func127 (by kernel_rfl) rfl Tryz.ntmps127 Tryz.results127 rfl rfl fun C hC hG => ?_
 refine W.seq (W.region ?_)
 refine pE rfl ?_
 refine WO.nil (qs (W.seq ?_))
 apply regionB; (case hb => rfl)
 ·
  iterate 3 refine pE rfl ?_
  apply splitJ; (case hj => rfl); (case hl => rfl)
  ·
   refine goG rfl rfl ?_
   refine pE rfl ?_
   refine goG rfl rfl ?_
   iterate 3 refine pE rfl ?_
   refine WO.nil ?_
   refine qv1 rfl rfl rfl
  ·
   iterate 2 refine skipT rfl rfl rfl rfl ?_
   iterate 2 refine pE rfl ?_
   refine WO.nil ?_
   refine qv1 rfl rfl rfl
 refine qs (W.ret ?_)
 refine QF.ret0 trivial rfl ?_
 refine bool_A ?_
 simp [letB] <;> omega
theorem isDigit_fn (b : UInt8) : Does Tryz.prog 130 [.d (.v (.int .u8 b.toNat))] (.d (.v (.bool (isDig b)))) 0 := by
 refine Does.of_W (n := 9) (ts := [2]) Tryz.func130 (by kernel_rfl) rfl Tryz.ntmps130 Tryz.results130 rfl rfl fun C hC hG => ?_
 refine W.seq (W.region ?_)
 refine pE rfl ?_
 refine WO.nil (qs (W.seq ?_))
 apply regionB; (case hb => rfl)
 ·
  iterate 3 refine pE rfl ?_
  apply splitJ; (case hj => rfl); (case hl => rfl)
  ·
   refine goG rfl rfl ?_
   refine pE rfl ?_
   refine goG rfl rfl ?_
   iterate 3 refine pE rfl ?_
   refine WO.nil ?_
   refine qv1 rfl rfl rfl
  ·
   iterate 2 refine skipT rfl rfl rfl rfl ?_
   iterate 2 refine pE rfl ?_
   refine WO.nil ?_
   refine qv1 rfl rfl rfl
 refine qs (W.ret ?_)
 refine QF.ret0 trivial rfl ?_
 refine bool_A ?_
 simp [isDig] <;> omega
theorem isWord_fn (b : UInt8) : Does Tryz.prog 129 [.d (.v (.int .u8 b.toNat))] (.d (.v (.bool (wrdB b)))) 0 := by
 refine Does.of_W (n := 13) (ts := [2]) Tryz.func129 (by kernel_rfl) rfl Tryz.ntmps129 Tryz.results129 rfl rfl fun C hC hG => ?_
 refine W.seq (W.region ?_)
 refine pE rfl ?_
 refine WO.nil (qs (W.seq ?_))
 apply regionB; (case hb => rfl)
 ·
  refine pE rfl ?_
  refine pu (puCall rfl rfl rfl (isLetter_fn ..) rfl) rfl ?_
  refine pE rfl ?_
  apply splitJ; (case hj => rfl); (case hl => rfl)
  ·
   iterate 2 refine skipT rfl rfl rfl rfl ?_
   iterate 2 refine pE rfl ?_
   iterate 2 refine skipT rfl rfl rfl rfl ?_
   iterate 2 refine pE rfl ?_
   refine WO.nil ?_
   refine qv1 rfl rfl rfl
  ·
   refine goG rfl rfl ?_
   refine pE rfl ?_
   refine goG rfl rfl ?_
   refine pu (puCall rfl rfl rfl (isDigit_fn ..) rfl) rfl ?_
   iterate 2 refine pE rfl ?_
   apply splitJ; (case hj => rfl); (case hl => rfl)
   ·
    iterate 2 refine skipT rfl rfl rfl rfl ?_
    iterate 2 refine pE rfl ?_
    refine WO.nil ?_
    refine qv1 rfl rfl rfl
   ·
    refine goG rfl rfl ?_
    refine pE rfl ?_
    refine goG rfl rfl ?_
    iterate 3 refine pE rfl ?_
    refine WO.nil ?_
    refine qv1 rfl rfl rfl
 refine qs (W.ret ?_)
 refine QF.ret0 trivial rfl ?_
 refine bool_A ?_
 have e : ((b.toNat : Int) = 95) ↔ b = 95 := by rw [u8_is]; exact ⟨fun h => by simpa using (Int.ofNat_inj.1 h), fun h => by rw [h]; rfl⟩
 simp [wrdB, e] <;> grind
theorem isText_fn (b : UInt8) : Does Tryz.prog 132 [.d (.v (.int .u8 b.toNat))] (.d (.v (.bool (txtB b)))) 0 := by
 refine Does.of_W (n := 13) (ts := [2]) Tryz.func132 (by kernel_rfl) rfl Tryz.ntmps132 Tryz.results132 rfl rfl fun C hC hG => ?_
 refine W.seq (W.region ?_)
 refine pE rfl ?_
 refine WO.nil (qs (W.seq ?_))
 apply regionB; (case hb => rfl)
 ·
  iterate 3 refine pE rfl ?_
  apply splitJ; (case hj => rfl); (case hl => rfl)
  ·
   refine goG rfl rfl ?_
   refine pE rfl ?_
   refine goG rfl rfl ?_
   iterate 3 refine pE rfl ?_
   apply splitJ; (case hj => rfl); (case hl => rfl)
   ·
    refine goG rfl rfl ?_
    refine pE rfl ?_
    refine goG rfl rfl ?_
    iterate 3 refine pE rfl ?_
    refine WO.nil ?_
    refine qv1 rfl rfl rfl
   ·
    iterate 2 refine skipT rfl rfl rfl rfl ?_
    iterate 2 refine pE rfl ?_
    refine WO.nil ?_
    refine qv1 rfl rfl rfl
  ·
   iterate 2 refine skipT rfl rfl rfl rfl ?_
   iterate 2 refine pE rfl ?_
   iterate 2 refine skipT rfl rfl rfl rfl ?_
   iterate 2 refine pE rfl ?_
   refine WO.nil ?_
   refine qv1 rfl rfl rfl
 refine qs (W.ret ?_)
 refine QF.ret0 trivial rfl ?_
 refine bool_A ?_
 have e : ((b.toNat : Int) = 34) ↔ b = 34 := by rw [u8_is]; exact ⟨fun h => by simpa using (Int.ofNat_inj.1 h), fun h => by rw [h]; rfl⟩
 simp [txtB, e]
 try grind
theorem byte_at {s : ByteArray} {k : Nat} (h : k < s.size) : ∃ b : UInt8, (bys s)[k]? = some b := ⟨(bys s)[k]'(by rw [bys_len']; exact h), by simp⟩
theorem byte_ex (s : ByteArray) (k : Nat) : ∃ b : UInt8, k < s.size → (bys s)[k]? = some b := by
 by_cases h : k < s.size
 ·
  obtain ⟨b, hb⟩ := byte_at h
  exact ⟨b, fun _ => hb⟩
 · exact ⟨0, fun h' => absurd h' h⟩
theorem run_fn (p : UInt8 → Bool) (fid : FuncId) (hp : ∀ b : UInt8, Does Tryz.prog fid [.d (.v (.int .u8 b.toNat))] (.d (.v (.bool (p b)))) 0) (s : ByteArray) (k0 : Nat) (h0 : k0 ≤ s.size) (hs : s.size ≤ 1000000) :
  Does Tryz.prog 128 [.d (.v (.string s)), .d (.v (.int .i64 (k0 : Int))), .clo fid []] (.d (.v (.int .i64 (runP p s k0 : Int)))) 0 := by
 refine Does.of_W (n := 21) (ts := [6]) Tryz.func128 (by kernel_rfl) rfl Tryz.ntmps128 Tryz.results128 rfl rfl fun C hC hG => ?_
 refine W.seq (W.region ?_)
 refine pE rfl ?_
 refine WO.nil (qs (W.seq (W.block ?_)))
 refine W.loopR (ι := {x : Nat // match x with | k => k ≤ s.size ∧ runP p s k = runP p s k0})
  (fun x => match x.1 with | k => [(1, .d (.v (.int .i64 ((k : Nat) : Int))))]) [(0, _), (2, _)]
  (fun x => match x.1 with | k => []) [] [] 0 (fun x => match x.1 with | k => s.size - k)
  [] ⟨k0, ?_⟩ rfl ?_ ⟨rfl, rfl, rfl, rfl, trivial⟩ ?_ trivial rfl ?_
 · exact ⟨h0, rfl⟩
 · repeat' first | exact trivial | refine ⟨rfl, ?_⟩ | refine ⟨step_nat (by assumption) (by assumption), ?_⟩
 · repeat' first | exact trivial | refine ⟨rfl, ?_⟩ | refine ⟨step_nat (by assumption) (by assumption), ?_⟩
 rintro ⟨k, hk, hI⟩
 show W _ _ _ _ _ ⟨[(1, .d (.v (.int .i64 ((k : Nat) : Int)))), (0, _), (2, _)], [], [], 0⟩
 obtain ⟨b, hb⟩ := byte_ex s k
 iterate 2 refine W.seq ?_
 apply regionB; (case hb => rfl)
 ·
  iterate 5 refine pE rfl ?_
  apply splitH; (case hj => rfl); (case hl => rfl)
  ·
   intro g11
   refine goG rfl rfl ?_
   refine pE rfl ?_
   refine goG rfl rfl ?_
   refine pE rfl ?_
   refine goG rfl rfl ?_
   refine pE rfl ?_
   refine goG rfl rfl ?_
   refine pu (indexStr tab rfl rfl rfl rfl (Int.natCast_nonneg _) (byteList (hb (by simpa using g11)))) rfl ?_
   refine goG rfl rfl ?_
   refine pu (puCall rfl rfl rfl (hp b) rfl) rfl ?_
   refine pE rfl ?_
   refine WO.nil ?_
   refine qv1 rfl rfl rfl
  ·
   intro g11
   iterate 5 refine skipT rfl rfl rfl rfl ?_
   refine pE rfl ?_
   refine WO.nil ?_
   refine qv1 rfl rfl rfl
 refine qs ?_
 refine condK rfl (fun h17 => ?_) (fun h17 => ?_)
 ·
  have hlt : k < s.size := by simp at h17; omega
  have hpb : p b = true := by simp at h17; exact h17.2
  rw [runP_step (hb hlt) hpb] at hI
  refine W.skip (qs (W.block (W.region ?_)))
  refine pE rfl ?_
  refine pu (puI (ev tab rfl) (y := ((k + 1 : Nat) : Int)) (by rw [wrap64 (by omega)]; rfl)) rfl ?_
  refine pE rfl ?_
  refine WO.nil (qbN ?_)
  refine W.endR [] ⟨k + 1, ?_⟩ ?_ rfl ?_ ⟨rfl, rfl, rfl, rfl, trivial⟩ ?_ trivial rfl
  · exact ⟨hlt, hI⟩
  · dsimp only; omega
  · repeat' first | exact trivial | refine ⟨rfl, ?_⟩ | refine ⟨step_nat (by assumption) (by assumption), ?_⟩
  · repeat' first | exact trivial | refine ⟨rfl, ?_⟩ | refine ⟨step_nat (by assumption) (by assumption), ?_⟩
 ·
  have hst : runP p s k = k := by
   by_cases q : k < s.size
   · exact runP_stop (hb q) (by simp at h17; simpa using h17 (by omega))
   · exact runP_end (by omega)
  refine W.exit (qsExit (qlExit (qbExit (qs (W.seq (W.region ?_))))))
  iterate 2 refine pE rfl ?_
  refine WO.nil (qs (W.ret ?_))
  refine QF.ret0 trivial rfl ?_
  rw [← hI, hst]; rfl
end Go.Proofs.YtifeonoehfffmaaGreatDoor
