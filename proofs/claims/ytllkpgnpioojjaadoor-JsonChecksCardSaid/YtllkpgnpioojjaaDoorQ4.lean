import Derived.Test.YtllkpgnpioojjaaDoorQ3
import Derived.Test.YtllkpgnpioojjaaDoorChecked
import Derived.KernelRfl
import Derived.Test.YtllkpgnpioojjaaDoorRows
import Derived.Shelf.Strings.Builder1
import Derived.Shelf.Small.Strs
import Derived.Shelf.Strconv.Atoi
import Derived.Shelf.Strconv.Itoa0
import Derived.Shelf.Strconv.Itoa1
import Derived.Shelf.LaysM
import Derived.Shelf.Strconv.Itoa2
import Derived.Shelf.Strconv.Itoa3
import Derived.Shelf.Strconv.AtoiErrFast
import Derived.Shelf.Strconv.ParseIntEmpty
import Derived.Shelf.Strconv.AtoiFail
import Derived.Shelf.Strconv.Clone
import Derived.Shelf.Strconv.SyntaxError
import Derived.Shelf.LaysC
import Derived.Shelf.Strconv.ToError
import Derived.Shelf.Strconv.AtoiErr
import Derived.Shelf.Strconv.ErrVar
import Derived.Shelf.Strconv.Lower
import Derived.Shelf.Strconv.ParseUint10
import Derived.Shelf.Strconv.ParseUint10Empty
import Derived.Shelf.Strconv.ParseUint10Any
import Derived.Shelf.Strconv.ParseInt10
import Derived.Shelf.Strconv.AtoiLong
import Derived.Shelf.Strconv.AtoiInnerAll
import Derived.Shelf.Strconv.RangeError
import Derived.Shelf.Strconv.ToErrorRange
import Derived.Shelf.Strconv.AtoiAll
import Derived.Shelf.Strconv.ErrVarAll
import Derived.Shelf.Strings.Search1
import Derived.Shelf.Slices.Equal
import Derived.Shelf.Slices.Empties2
import Derived.Test.YtllkpgnpioojjaaDoorProg
import Derived.Lib.Strings
import Derived.Lib.Slices
import Derived.Lib.Walk
import Derived.Lib.Builder
import Derived.Lib.UnsafeStr
import Derived.WalkKit
import Derived.Laws.Externs
import Derived.Laws.IdiomCopy
namespace Go.Proofs.YtllkpgnpioojjaaDoor
open Go.Ab
abbrev tabL : List (Nat × TyD) := [
 (2, ⟨.int .i64, 1, 8, [.int .i64 0]⟩),
 (3, ⟨.int .i64, 1, 8, [.int .i64 0]⟩),
 (4, ⟨.bool, 1, 1, [.bool false]⟩),
 (5, ⟨.int .u8, 1, 1, [.int .u8 0]⟩),
 (9, ⟨.str, 1, 16, [.string ⟨#[]⟩]⟩),
 (12, ⟨.int .u64, 1, 8, [.int .u64 0]⟩),
 (21, ⟨.int .i32, 1, 4, [.int .i32 0]⟩),
 (22, ⟨.int .i64, 1, 8, [.int .i64 0]⟩),
 (23, ⟨.slice 9, 1, 24, [.slice none 0 0]⟩),
 (24, ⟨.slice 26, 1, 24, [.slice none 0 0]⟩),
 (26, ⟨.st [(0, 22, "Op"), (1, 3, "N"), (2, 9, "S"), (3, 23, "Keys"), (4, 24, "Kids")], 5, 80, [.int .i64 0, .int .i64 0, .string ⟨#[]⟩, .slice none 0 0, .slice none 0 0]⟩),
 (29, ⟨.int .i64, 1, 8, [.int .i64 0]⟩),
 (45, ⟨.ptr 48, 1, 8, [.pointer none]⟩),
 (46, ⟨.slice 5, 1, 24, [.slice none 0 0]⟩),
 (48, ⟨.st [(0, 45, "addr"), (1, 46, "buf")], 2, 32, [.pointer none, .slice none 0 0]⟩),
 (57, ⟨.st [(0, 3, "at"), (1, 29, "why")], 2, 16, [.int .i64 0, .int .i64 0]⟩),
 (59, ⟨.ptr 61, 1, 8, [.pointer none]⟩),
 (61, ⟨.st [(0, 9, "s"), (1, 3, "at")], 2, 24, [.string ⟨#[]⟩, .int .i64 0]⟩),
 (65, ⟨.ptr 67, 1, 8, [.pointer none]⟩),
 (67, ⟨.st [(0, 9, "S"), (1, 3, "At"), (2, 3, "Pos"), (3, 29, "Err")], 4, 40, [.string ⟨#[]⟩, .int .i64 0, .int .i64 0, .int .i64 0]⟩),
 (76, ⟨.ptr 5, 1, 8, [.pointer none]⟩),
 (87, ⟨.map 9 4, 1, 8, [.map none]⟩),
 (100, ⟨.int .u64, 1, 8, [.int .u64 0]⟩),
 (105, ⟨.int .i64, 1, 8, [.int .i64 0]⟩),
 (108, ⟨.ptr 121, 1, 8, [.pointer none]⟩),
 (114, ⟨.int .u32, 1, 4, [.int .u32 0]⟩),
 (116, ⟨.int .u64, 1, 8, [.int .u64 0]⟩),
 (125, ⟨.ptr 127, 1, 8, [.pointer none]⟩),
 (127, ⟨.st [(0, 9, "s")], 1, 16, [.string ⟨#[]⟩]⟩)]
theorem tab_ok : tabL.all (fun x => tyOK Tryd.prog x.1 x.2) = true := by kernel_rfl
abbrev tab : Tab Tryd.prog := ⟨tabL, tab_ok, by kernel_rfl⟩
instance progMet : Go.Ab.Met Tryd.prog := ⟨fun W => MetNum Tryd.prog W⟩
section
variable {C : Ctx} {n : Nat} {ops : Array Oper} {Q : Exit → St → Prop} {rest : List Oper} {f : List (Nat × A)} {bx : List (Nat × List A)} {lv : List Nat} {gen d : Nat} {ty : TypeId} {pos : String} {af : Array Edge} {a : A}
theorem pE {op : Op} (h : Bool.rec (motive := fun _ => Option A) none (evPu tab f bx op) (Nat.blt d n) = some a) (k : WO Tryd.prog C n ops Q rest ⟨(d, a) :: f, bx, lv, gen⟩) : WO Tryd.prog C n ops Q (⟨some d, op, ty, pos, af, none⟩ :: rest) ⟨f, bx, lv, gen⟩ := by
  cases hb : Nat.blt d n with
  | false => rw [hb] at h; exact absurd h (by simp)
  | true => rw [hb] at h; exact pu (ev tab h) hb k
theorem pR {t : Nat} {x : Operand} {td : TyD} {l : List D} (ht : look' tab.l t = some td) (hk : td.k.agg = true) (hx : av f x = some (.rowd l)) (hl : l.length = td.n) (hd : Nat.blt d n = true) (k : WO Tryd.prog C n ops Q rest ⟨(d, .ag l) :: f, bx, lv, gen⟩) : WO Tryd.prog C n ops Q (⟨some d, .load t x, ty, pos, af, none⟩ :: rest) ⟨f, bx, lv, gen⟩ := pu (loadRow tab ht hk hx hl) hd k
theorem pB {t : Nat} {x : Operand} {td : TyD} {g : Nat} {l : List D} (ht : look' tab.l t = some td) (hk : td.k.agg = true) (hx : av f x = some (.ptr g 0)) (hb : look' bx g = some (l.map A.d)) (hl : l.length = td.n) (hd : Nat.blt d n = true) (k : WO Tryd.prog C n ops Q rest ⟨(d, .ag l) :: f, bx, lv, gen⟩) : WO Tryd.prog C n ops Q (⟨some d, .load t x, ty, pos, af, none⟩ :: rest) ⟨f, bx, lv, gen⟩ := pu (loadBox tab ht hk hx hb hl) hd k
end
end Go.Proofs.YtllkpgnpioojjaaDoor
namespace Go.Proofs.YtllkpgnpioojjaaDoor
open Go.Ab
theorem lmet (W : World) (h : laidMet Tryd.prog Rows.jsonChecksRow.laid W) : MetNum Tryd.prog W :=
 metNum_of (t := 113) (e := 100) (m := 20) (ti := 70) h (d := Rows.laid_internal_strconv_uint64pow10) (.tail _ (.tail _ (.head _))) (by kernel_rfl) (by kernel_rfl) (by kernel_rfl) (by kernel_rfl) (by kernel_rfl) (by kernel_rfl)
  (nm := "*errors.errorString") (nm' := "*errors.errorString") (.tail _ (.tail _ (.tail _ (.tail _ (.head _))))) (.tail _ (.tail _ (.tail _ (.head _)))) (by kernel_rfl) (by kernel_rfl) (by kernel_rfl)
end Go.Proofs.YtllkpgnpioojjaaDoor
namespace Go.Proofs.YtllkpgnpioojjaaDoor
open Go.Ab Go.Tb
set_option maxRecDepth 10000
attribute [local irreducible] W WO Pu QS QB QL QF QV QV1 CH QE
theorem in_fn (n : Int) : Does Tryd.prog 44 [.d (.v (.int .i64 n))] (.d (.v (.bool (inR n)))) 0 := by
 refine Does.of_W (n := 9) (ts := [2]) Tryd.func44 (by kernel_rfl) rfl Tryd.ntmps44 Tryd.results44 rfl rfl fun C hC hG => ?_
 refine W.seq (W.region ?_)
 refine pE rfl ?_
 refine WO.nil (qs (W.seq ?_))
 apply regionB; (case hb => rfl)
 ·
  iterate 3 refine pE rfl ?_
  apply splitJ; (case hj => rfl); (case hl => rfl)
  ·
   refine goG rfl rfl ?_
   refine pE rfl ?_
   refine goG rfl rfl ?_
   iterate 3 refine pE rfl ?_
   refine WO.nil ?_
   refine qv1 rfl rfl rfl
  ·
   iterate 2 refine skipT rfl rfl rfl rfl ?_
   iterate 2 refine pE rfl ?_
   refine WO.nil ?_
   refine qv1 rfl rfl rfl
 refine qs (W.ret ?_)
 refine QF.ret0 trivial rfl ?_
 simp [norm, oneA, inR]
theorem rin_fn (n : Int) : Does Tryd.prog 67 [.d (.v (.int .i64 n))] (.d (.v (.bool (inR n)))) 0 := by
 refine Does.of_W (n := 9) (ts := [2]) Tryd.func67 (by kernel_rfl) rfl Tryd.ntmps67 Tryd.results67 rfl rfl fun C hC hG => ?_
 refine W.seq (W.region ?_)
 refine pE rfl ?_
 refine WO.nil (qs (W.seq ?_))
 apply regionB; (case hb => rfl)
 ·
  iterate 3 refine pE rfl ?_
  apply splitJ; (case hj => rfl); (case hl => rfl)
  ·
   refine goG rfl rfl ?_
   refine pE rfl ?_
   refine goG rfl rfl ?_
   iterate 3 refine pE rfl ?_
   refine WO.nil ?_
   refine qv1 rfl rfl rfl
  ·
   iterate 2 refine skipT rfl rfl rfl rfl ?_
   iterate 2 refine pE rfl ?_
   refine WO.nil ?_
   refine qv1 rfl rfl rfl
 refine qs (W.ret ?_)
 refine QF.ret0 trivial rfl ?_
 simp [norm, oneA, inR]
end Go.Proofs.YtllkpgnpioojjaaDoor
namespace Go.Proofs.YtllkpgnpioojjaaDoor
open Go.Ab Go.Tb
set_option maxRecDepth 10000
attribute [local irreducible] W WO Pu QS QB QL QF QV QV1 CH QE
theorem idxStr_fn (fid : Nat) (caps : List A) (hc : Still caps) (p : ByteArray → Bool) (hp : ∀ x : ByteArray, Does Tryd.prog fid (.d (.v (.string x)) :: caps) (.d (.v (.bool (p x)))) 0) (l : List ByteArray) :
  Does Tryd.prog 66 [.d (.sl (l.map sc)), .clo fid caps] (.d (.v (.int .i64 (idx (l.findIdx? p))))) 0 := by
 refine Does.of_W (n := 19) (ts := [4]) Tryd.func66 (by kernel_rfl) rfl Tryd.ntmps66 Tryd.results66 rfl rfl fun C hC hG => ?_
 refine W.seq (W.region ?_)
 refine pE rfl ?_
 refine WO.nil (qs ?_)
 iterate 2 refine W.seq ?_
 refine W.region ?_
 iterate 3 refine pE rfl ?_
 refine WO.nil (qs (W.block ?_))
 refine W.len (t := 0) rfl rfl (fun hlen => ?_)
 try simp only [List.length_map, Ex.kc_len] at hlen
 refine W.loopR (ι := {x : Nat // match x with | k => k ≤ l.length ∧ noneBefore p l k})
  (fun x => match x.1 with | k => [(8, .d (.v (.int .i64 ((k : Nat) : Int))))]) [(0, _), (1, _), (7, _)]
  (fun x => match x.1 with | k => []) [] [] 0 (fun x => match x.1 with | k => l.length - k)
  [] ⟨0, ?_⟩ rfl ?_ ⟨rfl, (by first | rfl | exact hc.2), rfl, (by first | rfl | exact hc.2), rfl, (by first | rfl | exact hc.2), trivial⟩ ?_ trivial rfl ?_
 · exact ⟨Nat.zero_le _, noneBefore.zero⟩
 · repeat' first | exact trivial | refine ⟨rfl, ?_⟩ | refine ⟨congrArg some (renL_boxE _ _ _), ?_⟩ | refine ⟨step_nat (by assumption) (by assumption), ?_⟩
 · repeat' first | exact trivial | refine ⟨rfl, ?_⟩ | refine ⟨congrArg some (renL_boxE _ _ _), ?_⟩ | refine ⟨step_nat (by assumption) (by assumption), ?_⟩
 rintro ⟨k, hk, hI⟩
 show W _ _ _ _ _ ⟨[(8, .d (.v (.int .i64 ((k : Nat) : Int)))), (0, _), (1, _), (7, _)], [], [], 0⟩
 refine W.seq (W.region ?_)
 refine pE rfl ?_
 refine WO.nil (qs (W.seq ?_))
 refine eachR (l := l) (k := k) rfl (by simp [Ex.kc_len, bytes_len]) hk (fun x hx hd hlt => ?_) (fun he hd => ?_)
 ·
  refine W.skip (qs (W.seq (W.block (W.seq (W.region ?_)))))
  iterate 2 refine pE rfl ?_
  refine WO.nil (qs (W.seq (W.region ?_)))
  iterate 3 refine pE rfl ?_
  refine pu (indexAddr tab rfl rfl rfl rfl rfl rfl (Int.natCast_nonneg _) (idx_map (by assumption)) rfl) rfl ?_
  first | refine pE rfl ?_ | refine pR rfl rfl rfl rfl rfl ?_ | refine pB rfl rfl rfl rfl rfl rfl ?_
  refine pu (puCall rfl rfl (by rw [List.map_append, hc.1 _ 3]; rfl) (hp x) rfl) rfl ?_
  refine WO.nil (qs ?_)
  refine condK rfl (fun h16 => ?_) (fun h16 => ?_)
  ·
   refine W.seq (W.region ?_)
   iterate 2 refine pE rfl ?_
   refine WO.nil (qs (W.ret (qbRet (qsRet (qlRet (qbRet (qsRet ?_)))))))
   refine QF.ret0 trivial rfl ?_
   simp only [norm, oneA]; rw [hI.found hx h16]; rfl
  ·
   refine W.skip (qbN (qs (W.region ?_)))
   iterate 2 refine pE rfl ?_
   refine WO.nil ?_
   refine W.endR [] ⟨k + 1, ?_⟩ ?_ rfl ?_ ⟨rfl, (by first | rfl | exact hc.2), rfl, (by first | rfl | exact hc.2), rfl, (by first | rfl | exact hc.2), trivial⟩ ?_ trivial rfl
   · exact ⟨hlt, hI.step hx h16⟩
   · dsimp only; omega
   · repeat' first | exact trivial | refine ⟨rfl, ?_⟩ | refine ⟨congrArg some (renL_boxE _ _ _), ?_⟩ | refine ⟨step_nat (by assumption) (by assumption), ?_⟩
   · repeat' first | exact trivial | refine ⟨rfl, ?_⟩ | refine ⟨congrArg some (renL_boxE _ _ _), ?_⟩ | refine ⟨step_nat (by assumption) (by assumption), ?_⟩
 ·
  refine W.exit (qsExit (qlExit (qbExit (qs (W.seq (W.region ?_))))))
  refine pE rfl ?_
  refine WO.nil (qs (W.ret ?_))
  refine QF.ret0 trivial rfl ?_
  simp only [norm, oneA]; rw [hI.end_ he]; rfl
theorem index_fn (l : List ByteArray) (s : ByteArray) : Does Tryd.prog 26 [.d (.sl (l.map sc)), .d (.v (.string s))] (.d (.v (.int .i64 (idx (l.findIdx? fun x => decide (s = x)))))) 0 := by
 refine Does.of_W (n := 19) (ts := [4]) Tryd.func26 (by kernel_rfl) rfl Tryd.ntmps26 Tryd.results26 rfl rfl fun C hC hG => ?_
 refine W.seq (W.region ?_)
 refine pE rfl ?_
 refine WO.nil (qs ?_)
 iterate 2 refine W.seq ?_
 refine W.region ?_
 iterate 3 refine pE rfl ?_
 refine WO.nil (qs (W.block ?_))
 refine W.len (t := 0) rfl rfl (fun hlen => ?_)
 try simp only [List.length_map, Ex.kc_len] at hlen
 refine W.loopR (ι := {x : Nat // match x with | k => k ≤ l.length ∧ noneBefore (fun x => decide (s = x)) l k})
  (fun x => match x.1 with | k => [(8, .d (.v (.int .i64 ((k : Nat) : Int))))]) [(0, _), (1, _), (7, _)]
  (fun x => match x.1 with | k => []) [] [] 0 (fun x => match x.1 with | k => l.length - k)
  [] ⟨0, ?_⟩ rfl ?_ ⟨rfl, rfl, rfl, rfl, rfl, rfl, trivial⟩ ?_ trivial rfl ?_
 · exact ⟨Nat.zero_le _, noneBefore.zero⟩
 · repeat' first | exact trivial | refine ⟨rfl, ?_⟩ | refine ⟨congrArg some (renL_boxE _ _ _), ?_⟩ | refine ⟨step_nat (by assumption) (by assumption), ?_⟩
 · repeat' first | exact trivial | refine ⟨rfl, ?_⟩ | refine ⟨congrArg some (renL_boxE _ _ _), ?_⟩ | refine ⟨step_nat (by assumption) (by assumption), ?_⟩
 rintro ⟨k, hk, hI⟩
 show W _ _ _ _ _ ⟨[(8, .d (.v (.int .i64 ((k : Nat) : Int)))), (0, _), (1, _), (7, _)], [], [], 0⟩
 refine W.seq (W.region ?_)
 refine pE rfl ?_
 refine WO.nil (qs (W.seq ?_))
 refine eachR (l := l) (k := k) rfl (by simp [Ex.kc_len, bytes_len]) hk (fun x hx hd hlt => ?_) (fun he hd => ?_)
 ·
  refine W.skip (qs (W.seq (W.block (W.seq (W.region ?_)))))
  iterate 2 refine pE rfl ?_
  refine WO.nil (qs (W.seq (W.region ?_)))
  iterate 3 refine pE rfl ?_
  refine pu (indexAddr tab rfl rfl rfl rfl rfl rfl (Int.natCast_nonneg _) (idx_map (by assumption)) rfl) rfl ?_
  first | refine pE rfl ?_ | refine pR rfl rfl rfl rfl rfl ?_ | refine pB rfl rfl rfl rfl rfl rfl ?_
  refine pE rfl ?_
  refine WO.nil (qs ?_)
  refine condK rfl (fun h16 => ?_) (fun h16 => ?_)
  ·
   refine W.seq (W.region ?_)
   iterate 2 refine pE rfl ?_
   refine WO.nil (qs (W.ret (qbRet (qsRet (qlRet (qbRet (qsRet ?_)))))))
   refine QF.ret0 trivial rfl ?_
   simp only [norm, oneA]; rw [hI.found hx h16]; rfl
  ·
   refine W.skip (qbN (qs (W.region ?_)))
   iterate 2 refine pE rfl ?_
   refine WO.nil ?_
   refine W.endR [] ⟨k + 1, ?_⟩ ?_ rfl ?_ ⟨rfl, rfl, rfl, rfl, rfl, rfl, trivial⟩ ?_ trivial rfl
   · exact ⟨hlt, hI.step hx h16⟩
   · dsimp only; omega
   · repeat' first | exact trivial | refine ⟨rfl, ?_⟩ | refine ⟨congrArg some (renL_boxE _ _ _), ?_⟩ | refine ⟨step_nat (by assumption) (by assumption), ?_⟩
   · repeat' first | exact trivial | refine ⟨rfl, ?_⟩ | refine ⟨congrArg some (renL_boxE _ _ _), ?_⟩ | refine ⟨step_nat (by assumption) (by assumption), ?_⟩
 ·
  refine W.exit (qsExit (qlExit (qbExit (qs (W.seq (W.region ?_))))))
  refine pE rfl ?_
  refine WO.nil (qs (W.ret ?_))
  refine QF.ret0 trivial rfl ?_
  simp only [norm, oneA]; rw [hI.end_ he]; rfl
theorem containsStr_fn (fid : Nat) (caps : List A) (hc : Still caps) (p : ByteArray → Bool) (hp : ∀ x : ByteArray, Does Tryd.prog fid (.d (.v (.string x)) :: caps) (.d (.v (.bool (p x)))) 0) (l : List ByteArray) :
  Does Tryd.prog 46 [.d (.sl (l.map sc)), .clo fid caps] (.d (.v (.bool (l.any p)))) 0 := by
 refine Does.of_W (n := 9) (ts := [4]) Tryd.func46 (by kernel_rfl) rfl Tryd.ntmps46 Tryd.results46 rfl rfl fun C hC hG => ?_
 refine W.seq (W.region ?_)
 refine pE rfl ?_
 refine WO.nil (qs (W.seq (W.region ?_)))
 iterate 2 refine pE rfl ?_
 refine pu (puCall (args := [.d (.sl (l.map sc)), .clo fid caps]) rfl rfl (by simp [conv, hc.1 _ 2]) (idxStr_fn fid caps hc p hp l) rfl) rfl ?_
 iterate 2 refine pE rfl ?_
 refine WO.nil (qs (W.ret ?_))
 refine QF.ret0 trivial rfl ?_
 simp only [norm, oneA]; rw [← idx_nonneg]
end Go.Proofs.YtllkpgnpioojjaaDoor
namespace Go.Proofs.YtllkpgnpioojjaaDoor
open Go.Ab Go.Tb
set_option maxRecDepth 10000
attribute [local irreducible] W WO Pu QS QB QL QF QV QV1 CH QE
theorem ixb_fn (s : ByteArray) (b : UInt8) : Does Tryd.prog 74 [.d (.v (.string s)), .d (.v (.int .u8 b.toNat))] (.d (.v (.int .i64 (Lib.indexByte (bys s) b)))) 0 := by
 refine Does.of_W (n := 8) (ts := [4]) Tryd.func74 (by kernel_rfl) rfl Tryd.ntmps74 Tryd.results74 rfl rfl fun C hC hG => ?_
 refine W.inRange (t := 0) rfl (fun hok => ?_)
 refine W.seq (W.region ?_)
 refine pE rfl ?_
 refine WO.nil (qs (W.seq (W.region ?_)))
 iterate 2 refine pE rfl ?_
 refine pu (puExt (vs := [.string s, .int .u8 b.toNat]) rfl rfl (fun w => (run_callFunc_extern Tryd.func84 (by kernel_rfl) (by kernel_rfl) (by kernel_rfl) (by kernel_rfl) #[.string s, .int .u8 b.toNat] w).trans (by rw [show (Extern.BytealgIndexByte.indexByte #[.string s, .int .u8 b.toNat]).run Tryd.prog w = _ from Lib.run_indexByteString s b.toNat w]; rfl)) (indexByte_ok hok _)) rfl ?_
 refine pE rfl ?_
 refine WO.nil (qs (W.ret ?_))
 refine QF.ret0 trivial rfl ?_
 simp [norm, oneA, bys]
theorem sixb_fn (s : ByteArray) (b : UInt8) : Does Tryd.prog 55 [.d (.v (.string s)), .d (.v (.int .u8 b.toNat))] (.d (.v (.int .i64 (Lib.indexByte (bys s) b)))) 0 := by
 refine Does.of_W (n := 8) (ts := [4]) Tryd.func55 (by kernel_rfl) rfl Tryd.ntmps55 Tryd.results55 rfl rfl fun C hC hG => ?_
 refine W.seq (W.region ?_)
 refine pE rfl ?_
 refine WO.nil (qs (W.seq (W.region ?_)))
 iterate 2 refine pE rfl ?_
 refine pu (puCall rfl rfl rfl (ixb_fn ..) rfl) rfl ?_
 refine pE rfl ?_
 refine WO.nil (qs (W.ret ?_))
 refine QF.ret0 trivial rfl ?_
 rfl
end Go.Proofs.YtllkpgnpioojjaaDoor
namespace Go.Proofs
open Go.Shelf
def Tryd.lays169_ren : Go.Shelf.Ren := ⟨fun | 169 => 24 | n => n, fun | 70 => 45 | 9 => 9 | 0 => 0 | 72 => 48 | 37 => 46 | 127 => 76 | 3 => 3 | 5 => 5 | n => n, fun | n => n⟩
theorem Tryd.lays169 : Go.Proofs.Lays.n169 Tryd.prog Tryd.lays169_ren := {
 mixed := by kernel_rfl
 f169 := Tryd.func24.trans (congrArg some (by kernel_rfl))
 t0 := Tryd.underlying0
 a0 := Tryd.isAgg0
 z0 := Tryd.sizeOf0
 v0 := Tryd.zeroValue0
 t3 := Tryd.underlying3
 a3 := Tryd.isAgg3
 z3 := Tryd.sizeOf3
 v3 := Tryd.zeroValue3
 t9 := Tryd.underlying9
 a9 := Tryd.isAgg9
 z9 := Tryd.sizeOf9
 v9 := Tryd.zeroValue9
 t37 := Tryd.underlying46
 a37 := Tryd.isAgg46
 z37 := Tryd.sizeOf46
 v37 := Tryd.zeroValue46
 t70 := Tryd.underlying45
 a70 := Tryd.isAgg45
 z70 := Tryd.sizeOf45
 v70 := Tryd.zeroValue45
 t72 := Tryd.underlying48
 a72 := Tryd.isAgg48
 z72 := Tryd.sizeOf48
 v72 := Tryd.zeroValue48
 t127 := Tryd.underlying76
 a127 := Tryd.isAgg76
 z127 := Tryd.sizeOf76
 v127 := Tryd.zeroValue76 }
theorem Tryd.Builder_Extra_169 : Builder.Extra Tryd.prog Tryd.lays169_ren := {
 sizeBuilder := by kernel_rfl
 liesBuilder := by kernel_rfl
 t5 := Tryd.underlying5
 a5 := Tryd.isAgg5
 z5 := Tryd.sizeOf5
 v5 := Tryd.zeroValue5
 infoByte := by kernel_rfl
 cellsByte := by kernel_rfl
 sizeByte := by kernel_rfl
 neB5 := by decide }
open Go.RowKit in
theorem Tryd.Builder_String_any (B b : Nat) (l : List UInt8) (w : World) (h : Lib.IsBuilder 48 5 B b (Lib.byteCells l) w) (hBw : B ≤ w.heap.size) :
  Calls Tryd.prog 24 #[.pointer (some ⟨b, 0, none⟩)] w fun e w' => e = .returned (.string ⟨l.toArray⟩) ∧ Below B w w' := Any.Builder_String_any Tryd.lays169 Tryd.Builder_Extra_169 B b l w h hBw
def Tryd.laysM171_ren : Go.Shelf.Ren := ⟨fun | 171 => 64 | 243 => 79 | 246 => 86 | 283 => 90 | 284 => 91 | 285 => 92 | 286 => 93 | 129 => 100 | 317 => 99 | 318 => 101 | 319 => 102 | 320 => 103 | 337 => 107 | 338 => 108 | n => n, fun | 3 => 3 | 9 => 9 | 2 => 2 | 4 => 4 | 171 => 99 | 0 => 0 | 53 => 100 | 37 => 46 | 5 => 5 | 173 => 103 | 212 => 113 | 51 => 114 | 20 => 20 | 213 => 115 | 46 => 116 | 232 => 128 | 233 => 129 | n => n, fun | 17 => 1 | 18 => 4 | 19 => 5 | n => n⟩
theorem Tryd.laysM171 : Go.Proofs.LaysM.n171 Tryd.prog Tryd.laysM171_ren := {
 mixed := by kernel_rfl
 f129 := Tryd.func100.trans (congrArg some (by kernel_rfl))
 f171 := Tryd.func64.trans (congrArg some (by kernel_rfl))
 f243 := Tryd.func79.trans (congrArg some (by kernel_rfl))
 f246 := Tryd.func86.trans (congrArg some (by kernel_rfl))
 f283 := Tryd.func90.trans (congrArg some (by kernel_rfl))
 f284 := Tryd.func91.trans (congrArg some (by kernel_rfl))
 f285 := Tryd.func92.trans (congrArg some (by kernel_rfl))
 f286 := Tryd.func93.trans (congrArg some (by kernel_rfl))
 f317 := Tryd.func99.trans (congrArg some (by kernel_rfl))
 f318 := Tryd.func101.trans (congrArg some (by kernel_rfl))
 f319 := Tryd.func102.trans (congrArg some (by kernel_rfl))
 f320 := Tryd.func103.trans (congrArg some (by kernel_rfl))
 f337 := Tryd.func107.trans (congrArg some (by kernel_rfl))
 f338 := Tryd.func108.trans (congrArg some (by kernel_rfl))
 t0 := Tryd.underlying0
 a0 := Tryd.isAgg0
 z0 := Tryd.sizeOf0
 v0 := Tryd.zeroValue0
 t2 := Tryd.underlying2
 a2 := Tryd.isAgg2
 z2 := Tryd.sizeOf2
 v2 := Tryd.zeroValue2
 t3 := Tryd.underlying3
 a3 := Tryd.isAgg3
 z3 := Tryd.sizeOf3
 v3 := Tryd.zeroValue3
 t4 := Tryd.underlying4
 a4 := Tryd.isAgg4
 z4 := Tryd.sizeOf4
 v4 := Tryd.zeroValue4
 t5 := Tryd.underlying5
 a5 := Tryd.isAgg5
 z5 := Tryd.sizeOf5
 v5 := Tryd.zeroValue5
 t9 := Tryd.underlying9
 a9 := Tryd.isAgg9
 z9 := Tryd.sizeOf9
 v9 := Tryd.zeroValue9
 t20 := Tryd.underlying20
 a20 := Tryd.isAgg20
 z20 := Tryd.sizeOf20
 v20 := Tryd.zeroValue20
 t37 := Tryd.underlying46
 a37 := Tryd.isAgg46
 z37 := Tryd.sizeOf46
 v37 := Tryd.zeroValue46
 t46 := Tryd.underlying116
 a46 := Tryd.isAgg116
 z46 := Tryd.sizeOf116
 v46 := Tryd.zeroValue116
 t51 := Tryd.underlying114
 a51 := Tryd.isAgg114
 z51 := Tryd.sizeOf114
 v51 := Tryd.zeroValue114
 t53 := Tryd.underlying100
 a53 := Tryd.isAgg100
 z53 := Tryd.sizeOf100
 v53 := Tryd.zeroValue100
 t171 := Tryd.underlying99
 a171 := Tryd.isAgg99
 z171 := Tryd.sizeOf99
 v171 := Tryd.zeroValue99
 t173 := Tryd.underlying103
 a173 := Tryd.isAgg103
 z173 := Tryd.sizeOf103
 v173 := Tryd.zeroValue103
 t212 := Tryd.underlying113
 a212 := Tryd.isAgg113
 z212 := Tryd.sizeOf113
 v212 := Tryd.zeroValue113
 t213 := Tryd.underlying115
 a213 := Tryd.isAgg115
 z213 := Tryd.sizeOf115
 t232 := Tryd.underlying128
 a232 := Tryd.isAgg128
 z232 := Tryd.sizeOf128
 v232 := Tryd.zeroValue128
 t233 := Tryd.underlying129
 a233 := Tryd.isAgg129
 z233 := Tryd.sizeOf129
 v233 := Tryd.zeroValue129
 g17 := by kernel_rfl
 g18 := by kernel_rfl
 g19 := by kernel_rfl
 i0 := by kernel_rfl
 i2 := by kernel_rfl
 i3 := by kernel_rfl
 i4 := by kernel_rfl
 i5 := by kernel_rfl
 i9 := by kernel_rfl
 i20 := by kernel_rfl
 i37 := by kernel_rfl
 i46 := by kernel_rfl
 i51 := by kernel_rfl
 i53 := by kernel_rfl
 i171 := by kernel_rfl
 i173 := by kernel_rfl
 i212 := by kernel_rfl
 i232 := by kernel_rfl
 i233 := by kernel_rfl
 m17 := by kernel_rfl
 m18 := by kernel_rfl
 m19 := by kernel_rfl }
open Go.RowKit Go.Sort Go.Lib in
theorem Tryd.strconv_Itoa (n : Int) (h0 : -9223372036854775808 ≤ n) (h1 : n ≤ 9223372036854775807) (w : World) (htab : Lib.TabIs Tryd.prog w "internal/strconv.uint64pow10" .u64 Lib.pow10Tab) :
  Calls Tryd.prog 64 #[.int .i64 n] w fun e w' => e = .returned (.string ⟨(Lib.itoa n).toArray⟩) ∧ ∃ k os, w' = grow (w.drewN k) os := Any.strconv_Itoa Tryd.laysM171 n h0 h1 w htab
def Tryd.laysC172_ren : Go.Shelf.Ren := ⟨fun | 172 => 82 | 244 => 87 | 245 => 88 | 247 => 94 | 279 => 95 | 280 => 96 | 281 => 97 | 282 => 98 | 287 => 104 | 316 => 105 | 171 => 64 | 205 => 106 | 321 => 109 | 322 => 110 | 243 => 79 | 246 => 86 | 283 => 90 | 284 => 91 | 285 => 92 | 286 => 93 | 129 => 100 | 317 => 99 | 318 => 101 | 319 => 102 | 320 => 103 | 337 => 107 | 338 => 108 | n => n, fun | 9 => 9 | 3 => 3 | 75 => 70 | 76 => 71 | 4 => 4 | 5 => 5 | 167 => 105 | 37 => 46 | 0 => 0 | 85 => 106 | 2 => 2 | 168 => 108 | 53 => 100 | 175 => 118 | 46 => 116 | 210 => 121 | 127 => 76 | 145 => 127 | 143 => 125 | 21 => 21 | 171 => 99 | 173 => 103 | 212 => 113 | 51 => 114 | 20 => 20 | 213 => 115 | 232 => 128 | 233 => 129 | 80 => 50 | n => n, fun | 15 => 2 | 16 => 3 | 17 => 1 | 18 => 4 | 19 => 5 | n => n⟩
theorem Tryd.laysC172 : Go.Proofs.LaysC.n172 Tryd.prog Tryd.laysC172_ren := {
 mixed := by kernel_rfl
 f129 := Tryd.func100.trans (congrArg some (by kernel_rfl))
 f171 := Tryd.func64.trans (congrArg some (by kernel_rfl))
 f172 := Tryd.func82.trans (congrArg some (by kernel_rfl))
 f205 := Tryd.func106.trans (congrArg some (by kernel_rfl))
 f243 := Tryd.func79.trans (congrArg some (by kernel_rfl))
 f244 := Tryd.func87.trans (congrArg some (by kernel_rfl))
 f245 := Tryd.func88.trans (congrArg some (by kernel_rfl))
 f246 := Tryd.func86.trans (congrArg some (by kernel_rfl))
 f247 := Tryd.func94.trans (congrArg some (by kernel_rfl))
 f279 := Tryd.func95.trans (congrArg some (by kernel_rfl))
 f280 := Tryd.func96.trans (congrArg some (by kernel_rfl))
 f281 := Tryd.func97.trans (congrArg some (by kernel_rfl))
 f282 := Tryd.func98.trans (congrArg some (by kernel_rfl))
 f283 := Tryd.func90.trans (congrArg some (by kernel_rfl))
 f284 := Tryd.func91.trans (congrArg some (by kernel_rfl))
 f285 := Tryd.func92.trans (congrArg some (by kernel_rfl))
 f286 := Tryd.func93.trans (congrArg some (by kernel_rfl))
 f287 := Tryd.func104.trans (congrArg some (by kernel_rfl))
 f316 := Tryd.func105.trans (congrArg some (by kernel_rfl))
 f317 := Tryd.func99.trans (congrArg some (by kernel_rfl))
 f318 := Tryd.func101.trans (congrArg some (by kernel_rfl))
 f319 := Tryd.func102.trans (congrArg some (by kernel_rfl))
 f320 := Tryd.func103.trans (congrArg some (by kernel_rfl))
 f321 := Tryd.func109.trans (congrArg some (by kernel_rfl))
 f322 := Tryd.func110.trans (congrArg some (by kernel_rfl))
 f337 := Tryd.func107.trans (congrArg some (by kernel_rfl))
 f338 := Tryd.func108.trans (congrArg some (by kernel_rfl))
 t0 := Tryd.underlying0
 a0 := Tryd.isAgg0
 z0 := Tryd.sizeOf0
 v0 := Tryd.zeroValue0
 t2 := Tryd.underlying2
 a2 := Tryd.isAgg2
 z2 := Tryd.sizeOf2
 v2 := Tryd.zeroValue2
 t3 := Tryd.underlying3
 a3 := Tryd.isAgg3
 z3 := Tryd.sizeOf3
 v3 := Tryd.zeroValue3
 t4 := Tryd.underlying4
 a4 := Tryd.isAgg4
 z4 := Tryd.sizeOf4
 v4 := Tryd.zeroValue4
 t5 := Tryd.underlying5
 a5 := Tryd.isAgg5
 z5 := Tryd.sizeOf5
 v5 := Tryd.zeroValue5
 t9 := Tryd.underlying9
 a9 := Tryd.isAgg9
 z9 := Tryd.sizeOf9
 v9 := Tryd.zeroValue9
 t20 := Tryd.underlying20
 a20 := Tryd.isAgg20
 z20 := Tryd.sizeOf20
 v20 := Tryd.zeroValue20
 t21 := Tryd.underlying21
 a21 := Tryd.isAgg21
 z21 := Tryd.sizeOf21
 v21 := Tryd.zeroValue21
 t37 := Tryd.underlying46
 a37 := Tryd.isAgg46
 z37 := Tryd.sizeOf46
 v37 := Tryd.zeroValue46
 t46 := Tryd.underlying116
 a46 := Tryd.isAgg116
 z46 := Tryd.sizeOf116
 v46 := Tryd.zeroValue116
 t51 := Tryd.underlying114
 a51 := Tryd.isAgg114
 z51 := Tryd.sizeOf114
 v51 := Tryd.zeroValue114
 t53 := Tryd.underlying100
 a53 := Tryd.isAgg100
 z53 := Tryd.sizeOf100
 v53 := Tryd.zeroValue100
 t75 := Tryd.underlying70
 a75 := Tryd.isAgg70
 z75 := Tryd.sizeOf70
 v75 := Tryd.zeroValue70
 t76 := Tryd.underlying71
 a76 := Tryd.isAgg71
 z76 := Tryd.sizeOf71
 v76 := Tryd.zeroValue71
 t85 := Tryd.underlying106
 a85 := Tryd.isAgg106
 z85 := Tryd.sizeOf106
 v85 := Tryd.zeroValue106
 t127 := Tryd.underlying76
 a127 := Tryd.isAgg76
 z127 := Tryd.sizeOf76
 v127 := Tryd.zeroValue76
 t143 := Tryd.underlying125
 a143 := Tryd.isAgg125
 z143 := Tryd.sizeOf125
 v143 := Tryd.zeroValue125
 t145 := Tryd.underlying127
 a145 := Tryd.isAgg127
 z145 := Tryd.sizeOf127
 v145 := Tryd.zeroValue127
 t167 := Tryd.underlying105
 a167 := Tryd.isAgg105
 z167 := Tryd.sizeOf105
 v167 := Tryd.zeroValue105
 t168 := Tryd.underlying108
 a168 := Tryd.isAgg108
 z168 := Tryd.sizeOf108
 v168 := Tryd.zeroValue108
 t171 := Tryd.underlying99
 a171 := Tryd.isAgg99
 z171 := Tryd.sizeOf99
 v171 := Tryd.zeroValue99
 t173 := Tryd.underlying103
 a173 := Tryd.isAgg103
 z173 := Tryd.sizeOf103
 v173 := Tryd.zeroValue103
 t175 := Tryd.underlying118
 a175 := Tryd.isAgg118
 z175 := Tryd.sizeOf118
 v175 := Tryd.zeroValue118
 t210 := Tryd.underlying121
 a210 := Tryd.isAgg121
 z210 := Tryd.sizeOf121
 v210 := Tryd.zeroValue121
 t212 := Tryd.underlying113
 a212 := Tryd.isAgg113
 z212 := Tryd.sizeOf113
 v212 := Tryd.zeroValue113
 t213 := Tryd.underlying115
 a213 := Tryd.isAgg115
 z213 := Tryd.sizeOf115
 t232 := Tryd.underlying128
 a232 := Tryd.isAgg128
 z232 := Tryd.sizeOf128
 v232 := Tryd.zeroValue128
 t233 := Tryd.underlying129
 a233 := Tryd.isAgg129
 z233 := Tryd.sizeOf129
 v233 := Tryd.zeroValue129
 g15 := by kernel_rfl
 g16 := by kernel_rfl
 g17 := by kernel_rfl
 g18 := by kernel_rfl
 g19 := by kernel_rfl
 t80 := Tryd.underlying50
 a80 := Tryd.isAgg50
 z80 := Tryd.sizeOf50
 v80 := Tryd.zeroValue50
 i0 := by kernel_rfl
 i2 := by kernel_rfl
 i3 := by kernel_rfl
 i4 := by kernel_rfl
 i5 := by kernel_rfl
 i9 := by kernel_rfl
 i20 := by kernel_rfl
 i21 := by kernel_rfl
 i37 := by kernel_rfl
 i46 := by kernel_rfl
 i51 := by kernel_rfl
 i53 := by kernel_rfl
 i75 := by kernel_rfl
 i76 := by kernel_rfl
 i80 := by kernel_rfl
 i85 := by kernel_rfl
 i127 := by kernel_rfl
 i143 := by kernel_rfl
 i145 := by kernel_rfl
 i167 := by kernel_rfl
 i168 := by kernel_rfl
 i171 := by kernel_rfl
 i173 := by kernel_rfl
 i175 := by kernel_rfl
 i210 := by kernel_rfl
 i212 := by kernel_rfl
 i232 := by kernel_rfl
 i233 := by kernel_rfl
 m15 := by kernel_rfl
 m16 := by kernel_rfl
 m17 := by kernel_rfl
 m18 := by kernel_rfl
 m19 := by kernel_rfl
 c0 := by kernel_rfl
 c2 := by kernel_rfl
 c3 := by kernel_rfl
 c4 := by kernel_rfl
 c5 := by kernel_rfl
 c9 := by kernel_rfl
 c20 := by kernel_rfl
 c21 := by kernel_rfl
 c37 := by kernel_rfl
 c46 := by kernel_rfl
 c51 := by kernel_rfl
 c53 := by kernel_rfl
 c75 := by kernel_rfl
 c76 := by kernel_rfl
 c80 := by kernel_rfl
 c85 := by kernel_rfl
 c127 := by kernel_rfl
 c143 := by kernel_rfl
 c145 := by kernel_rfl
 c167 := by kernel_rfl
 c168 := by kernel_rfl
 c171 := by kernel_rfl
 c173 := by kernel_rfl
 c175 := by kernel_rfl
 c210 := by kernel_rfl
 c212 := by kernel_rfl
 c213 := by kernel_rfl
 c232 := by kernel_rfl
 c233 := by kernel_rfl }
open Go.RowKit in
theorem Tryd.strconv_Atoi_ok (s : ByteArray) (hmax : s.size ≤ 9223372036854775806) (v : Int) (h : Lib.atoiAll s.data.toList = .ok v) (w : World) :
  Calls Tryd.prog 82 #[.string s] w fun e w' => e = .returned (.tuple #[.int .i64 v, .nilIface]) ∧ (w' = w ∨ ∃ t, w' = Lib.bytesWorld w 5 t) := Any.strconv_Atoi_ok Tryd.laysC172 s hmax v h w
open Go.RowKit in
theorem Tryd.strconv_Atoi_syntax_var (s : ByteArray) (hlim : s.size ≤ 281474976710656) (h : Lib.atoiAll s.data.toList = Lib.atoiAll []) (tp : TypeId) (p : Value) (w : World) (hvar : w.var? Tryd.prog "strconv.ErrSyntax" = some #[.iface tp p]) :
  Calls Tryd.prog 82 #[.string s] w fun e w' => ∃ N, e = .returned (.tuple #[.int .i64 0, .iface 108 (.pointer (some ⟨N, 0, none⟩))]) ∧ w.heap.size ≤ N ∧ w'.heap[N]? = some (.cells #[.string ⟨#[65, 116, 111, 105]⟩, .string s, .iface tp p] 121 (0, 0)) ∧ Below w.heap.size w w' := Any.strconv_Atoi_syntax_var Tryd.laysC172 s hlim h tp p w hvar
open Go.RowKit in
theorem Tryd.strconv_Atoi_range_var (s : ByteArray) (hlim : s.size ≤ 281474976710656) (h : Lib.atoiAll s.data.toList = .range) (tp : TypeId) (p : Value) (w : World) (hvar : w.var? Tryd.prog "strconv.ErrRange" = some #[.iface tp p]) :
  Calls Tryd.prog 82 #[.string s] w fun e w' => ∃ N, e = .returned (.tuple #[.int .i64 (Lib.atoiSat s.data.toList), .iface 108 (.pointer (some ⟨N, 0, none⟩))]) ∧ w.heap.size ≤ N ∧ w'.heap[N]? = some (.cells #[.string ⟨#[65, 116, 111, 105]⟩, .string s, .iface tp p] 121 (0, 0)) ∧ Below w.heap.size w w' := Any.strconv_Atoi_range_var Tryd.laysC172 s hlim h tp p w hvar
end Go.Proofs
namespace Go.Proofs.YtllkpgnpioojjaaDoor
open Go.Ab Go.Tb
set_option maxRecDepth 10000
attribute [local irreducible] W WO Pu QS QB QL QF QV QV1 CH QE
def digits10 : ByteArray := B #[48, 49, 50, 51, 52, 53, 54, 55, 56, 57]
theorem digits10_at {d : Nat} (h : d < 10) : digits10.extract d (d + 1) = ⟨#[UInt8.ofNat (48 + d)]⟩ := by
 have : ∀ i : Fin 10, digits10.extract i.val (i.val + 1) = ⟨#[UInt8.ofNat (48 + i.val)]⟩ := by decide +kernel
 exact this ⟨d, h⟩
theorem app_data (a b : ByteArray) : (a ++ b).data.toList = a.data.toList ++ b.data.toList := by simp
theorem bys_inj {a b : ByteArray} (h : a.data.toList = b.data.toList) : a = b := by
 cases a; cases b; simp at h; exact congrArg _ h
theorem numB_size {n : Int} (h : n.natAbs < 10 ^ 20) : (numB n).size ≤ 21 := by
 have e : (numB n).size = (Lib.itoa n).length := Array.length_toList.symm
 rw [e]
 rcases Int.lt_or_le n 0 with hn | hn
 · rw [numB_neg hn, List.length_cons]; have := digB_len n.natAbs 19 h; omega
 · rw [numB_pos hn]; have := digB_len n.toNat 19 (by omega); omega
theorem tdiv10 {n : Int} (h0 : -9223372036854775808 ≤ n) (h1 : n ≤ 9223372036854775807) (h10 : 10 ≤ n.natAbs) : ∃ d : Nat, d = n.natAbs % 10 ∧ d < 10 ∧ (n < 0 → n.tmod 10 = -(d : Int)) ∧ (0 ≤ n → n.tmod 10 = (d : Int)) ∧ (n.tdiv 10).natAbs = n.natAbs / 10 ∧
  (n < 0 → n.tdiv 10 < 0) ∧ (0 ≤ n → 0 ≤ n.tdiv 10) ∧ (n.tdiv 10).natAbs * 10 ≤ n.natAbs ∧ -9223372036854775808 ≤ n.tdiv 10 ∧ n.tdiv 10 ≤ 9223372036854775807 := by
 have h4 : (n.tdiv 10).natAbs = n.natAbs / 10 := by rw [Int.natAbs_tdiv]; rfl
 rcases Int.lt_or_le n 0 with hn | hn
 ·
  have e : n = -(n.natAbs : Int) := by omega
  have e1 : n.tdiv 10 = -((n.natAbs / 10 : Nat) : Int) := by
   conv => lhs; rw [e]
   rw [Int.neg_tdiv]; rfl
  have e2 : n.tmod 10 = -((n.natAbs % 10 : Nat) : Int) := by
   conv => lhs; rw [e]
   rw [Int.neg_tmod]; rfl
  exact ⟨_, rfl, by omega, fun _ => e2, fun h => by omega, h4, fun _ => by omega, fun h => by omega, by omega, by omega, by omega⟩
 ·
  have e : n = (n.natAbs : Int) := by omega
  have e1 : n.tdiv 10 = ((n.natAbs / 10 : Nat) : Int) := by
   conv => lhs; rw [e]
   rfl
  have e2 : n.tmod 10 = ((n.natAbs % 10 : Nat) : Int) := by
   conv => lhs; rw [e]
   rfl
  exact ⟨_, rfl, by omega, fun h => by omega, fun _ => e2, h4, fun h => by omega, fun _ => by omega, by omega, by omega, by omega⟩
theorem part_size {n : Int} {a b : Nat} (hdiv : (n.tdiv 10).natAbs = n.natAbs / 10) (h0 : -9223372036854775808 ≤ n) (h1 : n ≤ 9223372036854775807) : (numB (n.tdiv 10)).size + (digits10.extract a b).size ≤ 9223372036854775807 := by
 have hp : (10 : Nat) ^ 20 = 100000000000000000000 := by decide
 have h2 := numB_size (n := n.tdiv 10) (by omega)
 have h3 : (digits10.extract a b).size ≤ 10 := by rw [ByteArray.size_extract, show digits10.size = 10 from rfl]; omega
 omega
theorem within_fn (n : Int) (ok : Bool) : Does Tryd.prog 83 [.d (.v (.int .i64 n)), .d (.v (.bool ok))] (.tup [.d (.v (.int .i64 (if ok && inR n then n else 0))), .d (.v (.bool (ok && inR n)))]) 0 := by
 refine Does.of_W (n := 14) (ts := [4, 5]) Tryd.func83 (by kernel_rfl) rfl Tryd.ntmps83 Tryd.results83 rfl rfl fun C hC hG => ?_
 refine W.seq (W.region ?_)
 iterate 2 refine pE rfl ?_
 refine WO.nil (qs ?_)
 iterate 2 refine W.seq ?_
 apply regionB; (case hb => rfl)
 ·
  iterate 3 refine pE rfl ?_
  apply splitJ; (case hj => rfl); (case hl => rfl)
  ·
   iterate 3 refine skipT rfl rfl rfl rfl ?_
   refine pE rfl ?_
   refine WO.nil ?_
   refine qv1 rfl rfl rfl
  ·
   refine goG rfl rfl ?_
   refine pE rfl ?_
   refine goG rfl rfl ?_
   refine pu (puCall rfl rfl rfl (in_fn ..) rfl) rfl ?_
   refine goG rfl rfl ?_
   iterate 2 refine pE rfl ?_
   refine WO.nil ?_
   refine qv1 rfl rfl rfl
 refine qs ?_
 refine condK rfl (fun h12 => ?_) (fun h12 => ?_)
 ·
  refine W.seq (W.region ?_)
  iterate 2 refine pE rfl ?_
  refine WO.nil (qs (W.ret (qsRet ?_)))
  refine QF.ret0 trivial rfl ?_
  cases ok <;> cases h : inR n <;> simp_all [norm, normL, oneA]
 ·
  refine W.skip (qs (W.seq (W.region ?_)))
  iterate 3 refine pE rfl ?_
  refine WO.nil (qs (W.ret ?_))
  refine QF.ret0 trivial rfl ?_
  cases ok <;> cases h : inR n <;> simp_all [norm, normL, oneA]
theorem rtext_fn : ∀ (m : Nat) (n : Int), 2 * n.natAbs + (if n < 0 then 1 else 0) < m → -9223372036854775808 ≤ n → n ≤ 9223372036854775807 → Does Tryd.prog 41 [.d (.v (.int .i64 n))] (.d (.v (.string (numB n)))) 0 := by
 intro m
 induction m with
 | zero => intro n h; omega
 | succ m ih =>
  intro n hm h0 h1
  have hp : (10 : Nat) ^ 20 = 100000000000000000000 := by decide
  refine Does.of_W (n := 38) (ts := [2]) Tryd.func41 (by kernel_rfl) rfl Tryd.ntmps41 Tryd.results41 rfl rfl fun C hC hG => ?_
  refine W.seq (W.region ?_)
  refine pE rfl ?_
  refine WO.nil (qs ?_)
  iterate 2 refine W.seq ?_
  apply regionB; (case hb => rfl)
  ·
   iterate 3 refine pE rfl ?_
   apply splitJ; (case hj => rfl); (case hl => rfl)
   ·
    refine goG rfl rfl ?_
    refine pE rfl ?_
    refine goG rfl rfl ?_
    iterate 2 refine pE rfl ?_
    refine WO.nil ?_
    refine qv1 rfl rfl rfl
   ·
    iterate 2 refine skipT rfl rfl rfl rfl ?_
    refine pE rfl ?_
    refine WO.nil ?_
    refine qv1 rfl rfl rfl
  refine qs ?_
  refine condK rfl (fun h9 => ?_) (fun h9 => ?_)
  ·
   have hn : n < 0 ∧ -10 < n := by simp at h9; omega
   have hs : (B #[45]) ++ numB (-n) = numB n := by
    refine bys_inj ?_
    rw [app_data, numB_data, numB_data, numB_neg hn.1, numB_pos (show 0 ≤ -n by omega), show (-n).toNat = n.natAbs by omega]
    rfl
   refine W.seq (W.region ?_)
   refine pE rfl ?_
   refine pu (puI (ev tab rfl) (y := -n) (by rw [Int.zero_sub]; exact wrap64 (by omega))) rfl ?_
   refine pu (puCall rfl rfl rfl (ih (-n) (by rw [if_pos hn.1] at hm; rw [if_neg (by omega)]; omega) (by omega) (by omega)) rfl) rfl ?_
   refine pu (puS (strAdd (p := B #[45]) (q := numB (-n)) rfl rfl (by have := numB_size (n := -n) (by omega); have : (B #[45]).size = 1 := rfl; omega)) hs) rfl ?_
   refine pE rfl ?_
   refine WO.nil (qs (W.ret (qsRet ?_)))
   refine QF.ret0 trivial rfl ?_
   rfl
  ·
   have hn : ¬ (n < 0 ∧ -10 < n) := by simp at h9; omega
   refine W.skip (qs ?_)
   iterate 2 refine W.seq ?_
   apply regionB; (case hb => rfl)
   ·
    iterate 3 refine pE rfl ?_
    apply splitJ; (case hj => rfl); (case hl => rfl)
    ·
     refine goG rfl rfl ?_
     refine pE rfl ?_
     refine goG rfl rfl ?_
     iterate 2 refine pE rfl ?_
     refine WO.nil ?_
     refine qv1 rfl rfl rfl
    ·
     iterate 2 refine skipT rfl rfl rfl rfl ?_
     refine pE rfl ?_
     refine WO.nil ?_
     refine qv1 rfl rfl rfl
   refine qs ?_
   refine condK rfl (fun h19 => ?_) (fun h19 => ?_)
   ·
    have hn2 : 0 ≤ n ∧ n < 10 := by simp at h19; omega
    have hs : digits10.extract n.toNat (n + 1).toNat = numB n := by
     refine bys_inj ?_
     rw [show (n + 1).toNat = n.toNat + 1 by omega, digits10_at (show n.toNat < 10 by omega), numB_data, numB_pos hn2.1, digB_small (by omega)]
    refine W.seq (W.region ?_)
    iterate 2 refine pE rfl ?_
    refine pu (puI (ev tab rfl) (wrap64 (by omega))) rfl ?_
    refine pu (puS (strPart (s := digits10) tab rfl rfl rfl rfl rfl hn2.1 (by omega) (by rw [show digits10.size = 10 from rfl]; omega)) hs) rfl ?_
    refine pE rfl ?_
    refine WO.nil (qs (W.ret (qsRet ?_)))
    refine QF.ret0 trivial rfl ?_
    rfl
   ·
    have hn2 : ¬ (0 ≤ n ∧ n < 10) := by simp at h19; omega
    obtain ⟨d, hd, hd10, hm1, hm2, hdiv, hsg1, hsg2, hlt10, hlo, hhi⟩ := tdiv10 h0 h1 (show 10 ≤ n.natAbs by omega)
    have hmeas : 2 * (n.tdiv 10).natAbs + (if n.tdiv 10 < 0 then 1 else 0) < m := by split <;> split at hm <;> omega
    have hok25 : okc (.int .i64 (n.tmod 10)) = true := by
     have : -10 < n.tmod 10 ∧ n.tmod 10 < 10 := by
      rcases Int.lt_or_le n 0 with q | q
      · rw [hm1 q]; omega
      · rw [hm2 q]; omega
     simp [okc, IntKind.min, IntKind.max, IntKind.signed, IntKind.bits]
     omega
    have hs : numB (n.tdiv 10) ++ digits10.extract d (d + 1) = numB n := by
     refine bys_inj ?_
     rw [app_data, digits10_at hd10, numB_data, numB_data]
     rcases Int.lt_or_le n 0 with hlt | hge
     ·
      rw [numB_neg hlt, numB_neg (hsg1 hlt), digB_big (u := n.natAbs) (by omega), hdiv, hd]
      rfl
     · rw [numB_pos hge, numB_pos (hsg2 hge), digB_big (u := n.toNat) (by omega), show (n.tdiv 10).toNat = n.toNat / 10 by omega, hd, show n.toNat % 10 = n.natAbs % 10 by omega]
    refine W.skip (qs (W.seq (W.region ?_)))
    refine pE rfl ?_
    refine pu (remR (q := 10) rfl rfl (by decide) hok25) rfl ?_
    refine pE rfl ?_
    refine WO.nil (qs ?_)
    iterate 2 refine W.seq ?_
    refine W.region ?_
    iterate 2 refine pE rfl ?_
    refine WO.nil (qs ?_)
    refine condK rfl (fun h27 => ?_) (fun h27 => ?_)
    ·
     have hneg : n < 0 := by
      rcases Int.lt_or_le n 0 with q | q
      · exact q
      · have := hm2 q; simp at h27; omega
     have hz := hm1 hneg
     refine W.region ?_
     refine pE rfl ?_
     refine pu (puI (ev tab rfl) (y := (d : Int)) (by rw [hz, Int.zero_sub, Int.neg_neg]; exact wrap64 (by omega))) rfl ?_
     refine pE rfl ?_
     refine WO.nil (qs (W.seq ?_))
     refine W.regionD tab (by kernel_rfl) ?_
     refine chPu (ev tab rfl) rfl ?_
     refine chPu (puI (quoR (q := 10) rfl rfl (by decide) (okc_wrap _ _)) (wrap64 ⟨hlo, hhi⟩)) rfl ?_
     refine chPu (puCall rfl rfl rfl (ih (n.tdiv 10) hmeas hlo hhi) rfl) rfl ?_
     refine chPu (puI (ev tab rfl) (y := (d : Int)) (by first | rfl | exact hz)) rfl ?_
     refine chPu (puI (ev tab rfl) (y := (d : Int)) (by first | rfl | exact hz)) rfl ?_
     refine chPu (puI (ev tab rfl) (y := ((d + 1 : Nat) : Int)) (show IntKind.i64.wrap ((d : Int) + 1) = _ by rw [wrap64 (by omega)]; rfl)) rfl ?_
     refine chPu (strPart (s := digits10) (l := (d : Int)) (h := ((d + 1 : Nat) : Int)) tab rfl rfl rfl rfl rfl (by omega) (by omega) (by rw [show digits10.size = 10 from rfl]; omega)) rfl ?_
     refine chPu (puS (strAdd rfl rfl (part_size hdiv h0 h1)) hs) rfl ?_
     refine chPu (ev tab rfl) rfl ?_
     refine CH.nil ?_
     refine qs (W.ret ?_)
     refine QF.ret0 trivial rfl ?_
     rfl
    ·
     have hz : n.tmod 10 = (d : Int) := by
      rcases Int.lt_or_le n 0 with q | q
      · have := hm1 q; simp at h27; omega
      · exact hm2 q
     refine W.skip (qs (W.seq ?_))
     refine W.regionD tab (by kernel_rfl) ?_
     refine chPu (ev tab rfl) rfl ?_
     refine chPu (puI (quoR (q := 10) rfl rfl (by decide) (okc_wrap _ _)) (wrap64 ⟨hlo, hhi⟩)) rfl ?_
     refine chPu (puCall rfl rfl rfl (ih (n.tdiv 10) hmeas hlo hhi) rfl) rfl ?_
     refine chPu (puI (ev tab rfl) (y := (d : Int)) (by first | rfl | exact hz)) rfl ?_
     refine chPu (puI (ev tab rfl) (y := (d : Int)) (by first | rfl | exact hz)) rfl ?_
     refine chPu (puI (ev tab rfl) (y := ((d + 1 : Nat) : Int)) (show IntKind.i64.wrap ((d : Int) + 1) = _ by rw [wrap64 (by omega)]; rfl)) rfl ?_
     refine chPu (strPart (s := digits10) (l := (d : Int)) (h := ((d + 1 : Nat) : Int)) tab rfl rfl rfl rfl rfl (by omega) (by omega) (by rw [show digits10.size = 10 from rfl]; omega)) rfl ?_
     refine chPu (puS (strAdd rfl rfl (part_size hdiv h0 h1)) hs) rfl ?_
     refine chPu (ev tab rfl) rfl ?_
     refine CH.nil ?_
     refine qs (W.ret ?_)
     refine QF.ret0 trivial rfl ?_
     rfl
end Go.Proofs.YtllkpgnpioojjaaDoor
namespace Go.Proofs.YtllkpgnpioojjaaDoor
open Go.Ab Go.Tb
set_option maxRecDepth 10000
attribute [local irreducible] W WO Pu QS QB QL QF QV QV1 CH QE
theorem num_of {w : World} (hu : Under Tryd.prog w) : MetNum Tryd.prog w := hu.num (fun _ h => h)
theorem numB_ok {n : Int} (h : n.natAbs < 10 ^ 20) : okc (.string (numB n)) = true := by
 have := numB_size h
 exact decide_eq_true (by simp only [maxLen]; omega)
theorem abs_int {n : Int} (h0 : -9223372036854775808 ≤ n) (h1 : n ≤ 9223372036854775807) : n.natAbs < 10 ^ 20 := by
 have hp : (10 : Nat) ^ 20 = 100000000000000000000 := by decide
 omega
open Go.RowKit in
theorem itoa_fn (n : Int) (h0 : -9223372036854775808 ≤ n) (h1 : n ≤ 9223372036854775807) : Does Tryd.prog 64 [.d (.v (.int .i64 n))] (.d (.v (.string (numB n)))) 0 :=
 Does.of_freshV (xs := [.int .i64 n]) ⟨_, Tryd.func64, by kernel_rfl, by kernel_rfl⟩ fun w hu _ =>
  (Tryd.strconv_Itoa n h0 h1 w (num_of hu).1).mono fun e w' ⟨he, k, os, hw⟩ =>
   ⟨_, he, hw ▸ Lib.below_grow _ w (Nat.le_refl _) k os, fun _ _ _ => .d (.v _ (numB_ok (abs_int h0 h1)))⟩
theorem text_fn (n : Int) (h0 : -9223372036854775808 ≤ n) (h1 : n ≤ 9223372036854775807) : Does Tryd.prog 38 [.d (.v (.int .i64 n))] (.d (.v (.string (numB n)))) 0 := by
 refine Does.of_W (n := 5) (ts := [2]) Tryd.func38 (by kernel_rfl) rfl Tryd.ntmps38 Tryd.results38 rfl rfl fun C hC hG => ?_
 refine W.seq (W.region ?_)
 refine pE rfl ?_
 refine WO.nil (qs (W.seq (W.region ?_)))
 refine pE rfl ?_
 refine pu (puCall rfl rfl rfl ((itoa_fn _ (by assumption) (by assumption))) rfl) rfl ?_
 refine pE rfl ?_
 refine WO.nil (qs (W.ret ?_))
 refine QF.ret0 trivial rfl ?_
 rfl
def atoiA (s : ByteArray) : A :=
 match Lib.atoiAll s.data.toList with
 | .ok v => .tup [.d (.v (.int .i64 v)), .d (.v .nilIface)]
 | .range => .tup [.d (.v (.int .i64 (Lib.atoiSat s.data.toList))), .ni]
 | _ => .tup [.d (.v (.int .i64 0)), .ni]
theorem sat_ok (l : List UInt8) : okc (.int .i64 (Lib.atoiSat l)) = true := by
 unfold Lib.atoiSat
 split <;> (try split) <;> decide
open Go.RowKit in
theorem atoi_fn (s : ByteArray) (hs : s.size ≤ 281474976710656) : Does Tryd.prog 82 [.d (.v (.string s))] (atoiA s) 0 :=
 Does.of_freshV (xs := [.string s]) ⟨_, Tryd.func82, by kernel_rfl, by kernel_rfl⟩ fun w hu _ => by
  obtain ⟨_, ⟨t, p, h2⟩, t', p', h3⟩ := num_of hu
  unfold atoiA
  cases h : Lib.atoiAll s.data.toList with
  | ok v =>
   have hb := Lib.atoiAll_bounds h
   refine (Tryd.strconv_Atoi_ok s (by omega) v h w).mono fun e w' ⟨he, hw⟩ => ⟨_, he, ?_, fun _ _ _ => pairRep (.d (.v _ ?_)) (.d (.v _ rfl))⟩
   ·
    rcases hw with rfl | ⟨t, rfl⟩
    · exact Below.refl _ _
    · exact Joins.below_bytesWorld _ w _ _ (Nat.le_refl _)
   ·
    simp [okc, IntKind.min, IntKind.max, IntKind.signed, IntKind.bits]
    omega
  | range =>
   exact (Tryd.strconv_Atoi_range_var s hs h t' p' w h3).mono fun e w' ⟨N, he, _, _, hb⟩ => ⟨_, he, hb, fun _ _ _ => pairRep (.d (.v _ (sat_ok _))) (.ni _ _)⟩
  | _ =>
   exact (Tryd.strconv_Atoi_syntax_var s hs h t p w h2).mono fun e w' ⟨N, he, _, _, hb⟩ => ⟨_, he, hb, fun _ _ _ => pairRep (.d (.v _ (by decide))) (.ni _ _)⟩
end Go.Proofs.YtllkpgnpioojjaaDoor
namespace Go.Proofs.YtllkpgnpioojjaaDoor
open Go.Ab Go.Tb
set_option maxRecDepth 10000
attribute [local irreducible] W WO Pu QS QB QL QF QV QV1 CH QE
end Go.Proofs.YtllkpgnpioojjaaDoor
namespace Go.Proofs.YtllkpgnpioojjaaDoor
open Go.Ab Go.Tb
set_option maxRecDepth 10000
attribute [local irreducible] W WO Pu QS QB QL QF QV QV1 CH QE
end Go.Proofs.YtllkpgnpioojjaaDoor
namespace Go.Proofs.YtllkpgnpioojjaaDoor
open Go.Ab Go.Tb
set_option maxRecDepth 10000
attribute [local irreducible] W WO Pu QS QB QL QF QV QV1 CH QE
theorem equal_fn (a b : List ByteArray) : Does Tryd.prog 29 [.d (.sl (txs a)), .d (.sl (txs b))] (.d (.v (.bool (decide (a = b))))) 0 := by
 refine Does.of_W (n := 26) (ts := [4]) Tryd.func29 (by kernel_rfl) rfl Tryd.ntmps29 Tryd.results29 rfl rfl fun C hC hG => ?_
 refine W.seq (W.region ?_)
 refine pE rfl ?_
 refine WO.nil (qs ?_)
 iterate 2 refine W.seq ?_
 refine W.region ?_
 iterate 5 refine pE rfl ?_
 refine WO.nil (qs ?_)
 refine condK rfl (fun h10 => ?_) (fun h10 => ?_)
 ·
  have hg : decide (a = b) = false := by simp at h10 ⊢; rintro rfl; simp at h10
  refine W.seq (W.region ?_)
  refine pE rfl ?_
  refine WO.nil (qs (W.ret (qsRet ?_)))
  refine QF.ret0 trivial rfl ?_
  rw [hg]; rfl
 ·
  have hl : a.length = b.length := by simp at h10; omega
  refine W.skip (qs ?_)
  iterate 2 refine W.seq ?_
  refine W.region ?_
  iterate 3 refine pE rfl ?_
  refine WO.nil (qs (W.block ?_))
  refine W.len (t := 0) rfl rfl (fun hlen => ?_)
  try simp only [List.length_map, Ex.kc_len] at hlen
  refine W.loopR (ι := {x : Nat // match x with | k => k ≤ a.length ∧ decide (a.drop k = b.drop k) = decide (a = b)})
   (fun x => match x.1 with | k => [(13, .d (.v (.int .i64 ((k : Nat) : Int))))]) [(0, _), (1, _), (12, _)]
   (fun x => match x.1 with | k => []) [] [] 0 (fun x => match x.1 with | k => a.length - k)
   [] ⟨0, ?_⟩ rfl ?_ ⟨rfl, rfl, rfl, rfl, rfl, rfl, trivial⟩ ?_ trivial rfl ?_
  · first | exact ⟨Nat.zero_le _, rfl⟩ | exact trivial | simp
  · repeat' first | exact trivial | refine ⟨rfl, ?_⟩ | refine ⟨congrArg some (renL_boxE _ _ _), ?_⟩ | refine ⟨step_nat (by assumption) (by assumption), ?_⟩
  · repeat' first | exact trivial | refine ⟨rfl, ?_⟩ | refine ⟨congrArg some (renL_boxE _ _ _), ?_⟩ | refine ⟨step_nat (by assumption) (by assumption), ?_⟩
  rintro ⟨k, hk, hI⟩
  show W _ _ _ _ _ ⟨[(13, .d (.v (.int .i64 ((k : Nat) : Int)))), (0, _), (1, _), (12, _)], [], [], 0⟩
  refine W.seq (W.region ?_)
  refine pE rfl ?_
  refine WO.nil (qs (W.seq ?_))
  refine eachR (l := a) (k := k) rfl (by simp [Ex.kc_len, bytes_len]) hk (fun x hx hd hlt => ?_) (fun he hd => ?_)
  ·
   obtain ⟨y, hy, hyd⟩ := exAt (l := b) (k := k) (by omega)
   rw [hd, hyd] at hI
   refine W.skip (qs (W.seq (W.block (W.seq (W.region ?_)))))
   iterate 2 refine pE rfl ?_
   refine WO.nil (qs (W.seq ?_))
   refine W.regionD tab (by kernel_rfl) ?_
   iterate 2 refine chPu (ev tab rfl) rfl ?_
   refine chPu (indexAddr tab rfl rfl rfl rfl rfl rfl (Int.natCast_nonneg _) (idx_map hx) rfl) rfl ?_
   first | refine chPu (ev tab rfl) rfl ?_ | refine chPu (loadRow tab rfl rfl rfl rfl) rfl ?_ | refine chPu (loadBox tab rfl rfl rfl rfl rfl) rfl ?_
   iterate 2 refine chPu (ev tab rfl) rfl ?_
   refine chPu (indexAddr tab rfl rfl rfl rfl rfl rfl (Int.natCast_nonneg _) (idx_map hy) rfl) rfl ?_
   first | refine chPu (ev tab rfl) rfl ?_ | refine chPu (loadRow tab rfl rfl rfl rfl) rfl ?_ | refine chPu (loadBox tab rfl rfl rfl rfl rfl) rfl ?_
   refine chPu (ev tab rfl) rfl ?_
   refine CH.nil ?_
   refine qs ?_
   refine condK rfl (fun h24 => ?_) (fun h24 => ?_)
   ·
    have hxy : x ≠ y := by rintro rfl; simp at h24
    have hg : decide (a = b) = false := by rw [← hI]; simp [hxy]
    refine W.seq (W.region ?_)
    refine pE rfl ?_
    refine WO.nil (qs (W.ret (qbRet (qsRet (qlRet (qbRet (qsRet ?_)))))))
    refine QF.ret0 trivial rfl ?_
    rw [hg]; rfl
   ·
    have hxy : x = y := by simpa using h24
    refine W.skip (qbN (qs (W.region ?_)))
    iterate 2 refine pE rfl ?_
    refine WO.nil ?_
    refine W.endR [] ⟨k + 1, ?_⟩ ?_ rfl ?_ ⟨rfl, rfl, rfl, rfl, rfl, rfl, trivial⟩ ?_ trivial rfl
    ·
     refine ⟨hlt, ?_⟩
     rw [← hI, hxy]
     simp
    · dsimp only; omega
    · repeat' first | exact trivial | refine ⟨rfl, ?_⟩ | refine ⟨congrArg some (renL_boxE _ _ _), ?_⟩ | refine ⟨step_nat (by assumption) (by assumption), ?_⟩
    · repeat' first | exact trivial | refine ⟨rfl, ?_⟩ | refine ⟨congrArg some (renL_boxE _ _ _), ?_⟩ | refine ⟨step_nat (by assumption) (by assumption), ?_⟩
  ·
   rw [hd, dropEnd (l := b) (by omega)] at hI
   refine W.exit (qsExit (qlExit (qbExit (qs (W.seq (W.region ?_))))))
   refine pE rfl ?_
   refine WO.nil (qs (W.ret ?_))
   refine QF.ret0 trivial rfl ?_
   rw [← hI]; rfl
end Go.Proofs.YtllkpgnpioojjaaDoor
namespace Go.Proofs.YtllkpgnpioojjaaDoor
open Go.Ab Go.Tb
set_option maxRecDepth 10000
attribute [local irreducible] W WO Pu QS QB QL QF QV QV1 CH QE
theorem nparse_ok (s : ByteArray) (v : Int) (h : Lib.atoiAll s.data.toList = .ok v) : numP s = (if (if numB v = s then true else false) && inR v then (v, true) else (0, false)) := by
 unfold numP
 rw [h]
 by_cases h1 : numB v = s <;> by_cases h2 : inR v = true <;> simp [h1, h2]
theorem sat_in (l : List UInt8) : -9223372036854775808 ≤ Lib.atoiSat l ∧ Lib.atoiSat l ≤ 9223372036854775807 := by
 unfold Lib.atoiSat
 split <;> decide
theorem wrap_u8 {x : Int} (h : 0 ≤ x ∧ x ≤ 255) : IntKind.u8.wrap x = x := IntWalk.u8_in x h
theorem nparse_fn (s : ByteArray) (hs : s.size ≤ 281474976710656) : Does Tryd.prog 73 [.d (.v (.string s))] (.tup [.d (.v (.int .i64 (numP s).1)), .d (.v (.bool (numP s).2))]) 0 := by
 have ha := atoi_fn s hs
 unfold atoiA at ha
 cases h : Lib.atoiAll s.data.toList with
 | ok v =>
  rw [h] at ha
  have hb := Lib.atoiAll_bounds h
  have hp := nparse_ok s v h
  refine Does.of_W (n := 23) (ts := [2, 3]) Tryd.func73 (by kernel_rfl) rfl Tryd.ntmps73 Tryd.results73 rfl rfl fun C hC hG => ?_
  refine W.seq (W.region ?_)
  iterate 2 refine pE rfl ?_
  refine WO.nil (qs (W.seq (W.region ?_)))
  refine pE rfl ?_
  refine pu (puCall rfl rfl rfl ha rfl) rfl ?_
  iterate 5 refine pE rfl ?_
  refine WO.nil (qs (W.seq (W.region ?_)))
  iterate 2 refine pE rfl ?_
  refine pu (nilEq rfl (by kernel_rfl)) rfl ?_
  refine pE rfl ?_
  refine splitG rfl rfl (fun _ => ?_) (fun _ => ?_)
  ·
   refine goG rfl rfl ?_
   refine pE rfl ?_
   refine goG rfl rfl ?_
   refine pu (puCall rfl rfl rfl (text_fn v hb.1 hb.2) rfl) rfl ?_
   refine goG rfl rfl ?_
   refine pE rfl ?_
   refine goG rfl rfl ?_
   iterate 2 refine pE rfl ?_
   refine pu (puCall rfl rfl rfl (within_fn ..) rfl) rfl ?_
   iterate 4 refine pE rfl ?_
   refine WO.nil (qs (W.ret ?_))
   refine QF.ret0 trivial rfl ?_
   first | contradiction | (rw [hp]; simp only [norm, normL, oneA]; by_cases h1 : numB v = s <;> by_cases h2 : inR v = true <;> simp [h1, h2])
  ·
   iterate 4 refine skipT rfl rfl rfl rfl ?_
   refine pE rfl ?_
   refine pu (puCall rfl rfl rfl (within_fn ..) rfl) rfl ?_
   iterate 4 refine pE rfl ?_
   refine WO.nil (qs (W.ret ?_))
   refine QF.ret0 trivial rfl ?_
   first | contradiction | (rw [hp]; simp only [norm, normL, oneA]; by_cases h1 : numB v = s <;> by_cases h2 : inR v = true <;> simp [h1, h2])
 | range =>
  rw [h] at ha
  have hp : numP s = (0, false) := by unfold numP; rw [h]
  refine Does.of_W (n := 23) (ts := [2, 3]) Tryd.func73 (by kernel_rfl) rfl Tryd.ntmps73 Tryd.results73 rfl rfl fun C hC hG => ?_
  refine W.seq (W.region ?_)
  iterate 2 refine pE rfl ?_
  refine WO.nil (qs (W.seq (W.region ?_)))
  refine pE rfl ?_
  refine pu (puCall rfl rfl rfl ha rfl) rfl ?_
  iterate 5 refine pE rfl ?_
  refine WO.nil (qs (W.seq (W.region ?_)))
  iterate 2 refine pE rfl ?_
  refine pu (niEq rfl (by kernel_rfl)) rfl ?_
  refine pE rfl ?_
  refine splitG rfl rfl (fun _ => ?_) (fun _ => ?_)
  ·
   refine goG rfl rfl ?_
   refine pE rfl ?_
   refine goG rfl rfl ?_
   refine pu (puCall rfl rfl rfl (text_fn _ (sat_in _).1 (sat_in _).2) rfl) rfl ?_
   refine goG rfl rfl ?_
   refine pE rfl ?_
   refine goG rfl rfl ?_
   iterate 2 refine pE rfl ?_
   refine pu (puCall rfl rfl rfl (within_fn ..) rfl) rfl ?_
   iterate 4 refine pE rfl ?_
   refine WO.nil (qs (W.ret ?_))
   refine QF.ret0 trivial rfl ?_
   first | contradiction | (rw [hp]; rfl)
  ·
   iterate 4 refine skipT rfl rfl rfl rfl ?_
   refine pE rfl ?_
   refine pu (puCall rfl rfl rfl (within_fn ..) rfl) rfl ?_
   iterate 4 refine pE rfl ?_
   refine WO.nil (qs (W.ret ?_))
   refine QF.ret0 trivial rfl ?_
   first | contradiction | (rw [hp]; rfl)
 | _ =>
  rw [h] at ha
  have hp : numP s = (0, false) := by unfold numP; rw [h]
  refine Does.of_W (n := 23) (ts := [2, 3]) Tryd.func73 (by kernel_rfl) rfl Tryd.ntmps73 Tryd.results73 rfl rfl fun C hC hG => ?_
  refine W.seq (W.region ?_)
  iterate 2 refine pE rfl ?_
  refine WO.nil (qs (W.seq (W.region ?_)))
  refine pE rfl ?_
  refine pu (puCall rfl rfl rfl ha rfl) rfl ?_
  iterate 5 refine pE rfl ?_
  refine WO.nil (qs (W.seq (W.region ?_)))
  iterate 2 refine pE rfl ?_
  refine pu (niEq rfl (by kernel_rfl)) rfl ?_
  refine pE rfl ?_
  refine splitG rfl rfl (fun _ => ?_) (fun _ => ?_)
  ·
   refine goG rfl rfl ?_
   refine pE rfl ?_
   refine goG rfl rfl ?_
   refine pu (puCall rfl rfl rfl (text_fn 0 (by decide) (by decide)) rfl) rfl ?_
   refine goG rfl rfl ?_
   refine pE rfl ?_
   refine goG rfl rfl ?_
   iterate 2 refine pE rfl ?_
   refine pu (puCall rfl rfl rfl (within_fn ..) rfl) rfl ?_
   iterate 4 refine pE rfl ?_
   refine WO.nil (qs (W.ret ?_))
   refine QF.ret0 trivial rfl ?_
   first | contradiction | (rw [hp]; rfl)
  ·
   iterate 4 refine skipT rfl rfl rfl rfl ?_
   refine pE rfl ?_
   refine pu (puCall rfl rfl rfl (within_fn ..) rfl) rfl ?_
   iterate 4 refine pE rfl ?_
   refine WO.nil (qs (W.ret ?_))
   refine QF.ret0 trivial rfl ?_
   first | contradiction | (rw [hp]; rfl)
end Go.Proofs.YtllkpgnpioojjaaDoor
namespace Go.Proofs.YtllkpgnpioojjaaDoor
open Go.Ab Go.RowKit
abbrev tB : Nat := 48
abbrev tU : Nat := 5
theorem bld_size : (Tryd.prog.info? tB).map (·.size) = some 2 := by kernel_rfl
theorem bld_lies : liesAt Tryd.prog Tryd.prog.depth tB (2 / Tryd.prog.cellsOf tB) 0 tB 1 = true := by kernel_rfl
set_option maxHeartbeats 1000000 in
set_option maxRecDepth 100000 in
theorem bld_used (b : Nat) (w : World) (h0 : w.cell? ⟨b, 0, none⟩ = some (.pointer (some ⟨b, 0, none⟩))) :
  Calls Tryd.prog 63 #[.pointer (some ⟨b, 0, none⟩)] w fun e w' => e = .returned (.tuple #[]) ∧ w' = w := by
 obtain ⟨j, hj, _⟩ := Option.map_eq_some_iff.1 bld_size
 have t48 := Tryd.underlying48; have a48 := Tryd.isAgg48; have z48 := Tryd.sizeOf48; have u48 := run_underlying Tryd.underlying48
 have t45 := Tryd.underlying45; have a45 := Tryd.isAgg45; have z45 := Tryd.sizeOf45; have u45 := run_underlying Tryd.underlying45
 have t92 := Tryd.underlying92; have a92 := Tryd.isAgg92; have z92 := Tryd.sizeOf92; have u92 := run_underlying Tryd.underlying92
 go_enter Tryd.func63, Tryd.ntmps63
 go_wp2
 rw [Lib.run_neq_ptr_same w _ Tryd.underlying45 hj]
 go_wp2
 go_end0
 exact ⟨rfl, rfl⟩
set_option maxHeartbeats 1000000 in
set_option maxRecDepth 100000 in
theorem bld_fresh (b : Nat) (w : World) (h0 : w.cell? ⟨b, 0, none⟩ = some (.pointer none)) (hsh : w.shape? b = some (tB, 2)) (hfz : w.frozen? ⟨b, 0, none⟩ = false) :
  Calls Tryd.prog 63 #[.pointer (some ⟨b, 0, none⟩)] w fun e w' => e = .returned (.tuple #[]) ∧ w' = w.setCell ⟨b, 0, none⟩ (.pointer (some ⟨b, 0, none⟩)) := by
 obtain ⟨j, hj, hjs⟩ := Option.map_eq_some_iff.1 bld_size
 have t48 := Tryd.underlying48; have a48 := Tryd.isAgg48; have z48 := Tryd.sizeOf48; have u48 := run_underlying Tryd.underlying48
 have t45 := Tryd.underlying45; have a45 := Tryd.isAgg45; have z45 := Tryd.sizeOf45; have u45 := run_underlying Tryd.underlying45
 have t92 := Tryd.underlying92; have a92 := Tryd.isAgg92; have z92 := Tryd.sizeOf92; have u92 := run_underlying Tryd.underlying92
 go_enter Tryd.func63, Tryd.ntmps63
 go_wp2
 rw [Lib.run_to_unsafe w ⟨b, 0, none⟩ Tryd.underlying45 Tryd.underlying92 hj (by rw [hjs]; decide) hsh (Nat.zero_lt_succ 1)]
 simp only [Result.andThen]
 rw [Oper.upon_value]
 go_wp2
 rw [run_callFunc_extern Tryd.func78 (by kernel_rfl) (by kernel_rfl) (by kernel_rfl) (e := Extern.AbiNoEscape.same) (by kernel_rfl)]
 rw [Lib.run_noEscape]
 simp only [Result.andThen]
 rw [Oper.upon_value]
 go_wp2
 rw [Lib.run_from_unsafe w ⟨b, 0, none⟩ Tryd.underlying92 Tryd.underlying45 hj hsh bld_lies]
 simp only [Result.andThen]
 rw [Oper.upon_value]
 go_wp2
 go_end0
 exact ⟨rfl, rfl⟩
theorem bld_cc : FnOK Tryd.prog 63 := ⟨_, Tryd.func63, by kernel_rfl, by kernel_rfl⟩
theorem bld_st : FnOK Tryd.prog 24 := ⟨_, Tryd.func24, by kernel_rfl, by kernel_rfl⟩
theorem bld_copy : CopyChecks Tryd.prog tB 63 := ⟨bld_used, bld_fresh⟩
theorem bld_str : StrGives Tryd.prog tB tU 24 := fun B b l w h hB => Tryd.Builder_String_any B b l w h hB
end Go.Proofs.YtllkpgnpioojjaaDoor
namespace Go.Proofs.YtllkpgnpioojjaaDoor
open Go.Ab Go.Tb
set_option maxRecDepth 10000
attribute [local irreducible] W WO Pu QS QB QL QF QV QV1 CH QE
theorem copyCheck_fn (u : Bool) (s : ByteArray) : DoesB Tryd.prog 63 [.ptr 0 0] [[.np 0 tB u, .bf 1 tU s]] 1 (.tup []) [[.np 0 tB true, .bf 1 tU s]] 1 := CopyChecks.does bld_cc bld_copy u (.bf 1 tU s) 1
theorem bwrite_fn (u : Bool) (s x : ByteArray) (hb : s.size + x.size ≤ 140737488355328) : DoesB Tryd.prog 37 [.ptr 0 0, .d (.v (.string x))] [[.np 0 tB u, .bf 1 tU s]] 1 (.tup [.d (.v (.int .i64 x.size)), .d (.v .nilIface)]) [[.np 0 tB true, .bf 1 tU (s ++ x)]] 1 := by
 refine DoesB.of_V tab (n := 19) (rs := [.tmp 4, .tmp 5]) Tryd.func37 (by kernel_rfl) rfl Tryd.ntmps37 Tryd.results37 rfl rfl fun C hC hG => ?_
 refine W.seq (W.region ?_)
 iterate 2 refine pE rfl ?_
 refine WO.nil (qs (W.seq (W.region ?_)))
 refine pE rfl ?_
 refine callB [0] [1] rfl rfl rfl rfl rfl ((copyCheck_fn u s)) rfl rfl (by rfl) (by rfl) rfl rfl rfl rfl ?_
 refine WO.nil (qs (W.seq (W.region ?_)))
 iterate 4 refine pE rfl ?_
 first | refine pE rfl ?_ | refine pR rfl rfl rfl rfl rfl ?_ | refine pB rfl rfl rfl rfl rfl rfl ?_
 refine pE rfl ?_
 refine appendStrB tab rfl rfl rfl rfl rfl rfl rfl rfl rfl rfl hb rfl rfl ?_
 iterate 2 refine pE rfl ?_
 refine storeR tab rfl rfl rfl rfl rfl rfl rfl rfl ?_
 refine WO.nil (qs (W.seq (W.region ?_)))
 iterate 4 refine pE rfl ?_
 refine WO.nil (qs (W.ret ?_))
 refine QB1.end tab [4] trivial rfl rfl rfl rfl ?_ ?_
 · exact ⟨rfl, trivial⟩
 rfl
theorem bbyte_fn (u : Bool) (s : ByteArray) (c : Int) (m : ByteArray) (hm : m.size = 1) (hm0 : ∀ b, m.data[0]? = some b → (b.toNat : Int) = c) (hb : s.size + 1 ≤ 140737488355328) : DoesB Tryd.prog 40 [.ptr 0 0, .d (.v (.int .u8 c))] [[.np 0 tB u, .bf 1 tU s]] 1 (.d (.v .nilIface)) [[.np 0 tB true, .bf 1 tU (s ++ m)]] 1 := by
 refine DoesB.of_V tab (n := 17) (rs := [.tmp 4]) Tryd.func40 (by kernel_rfl) rfl Tryd.ntmps40 Tryd.results40 rfl rfl fun C hC hG => ?_
 refine W.seq (W.region ?_)
 refine pE rfl ?_
 refine WO.nil (qs (W.seq (W.region ?_)))
 refine pE rfl ?_
 refine callB [0] [1] rfl rfl rfl rfl rfl ((copyCheck_fn u s)) rfl rfl (by rfl) (by rfl) rfl rfl rfl rfl ?_
 refine WO.nil (qs (W.seq (W.region ?_)))
 iterate 4 refine pE rfl ?_
 first | refine pE rfl ?_ | refine pR rfl rfl rfl rfl rfl ?_ | refine pB rfl rfl rfl rfl rfl rfl ?_
 refine pE rfl ?_
 refine pu (buildV tab rfl rfl rfl rfl rfl rfl rfl rfl rfl) rfl ?_
 refine appendByteB tab rfl rfl rfl rfl rfl rfl rfl rfl m hm hm0 hb rfl rfl ?_
 iterate 2 refine pE rfl ?_
 refine storeR tab rfl rfl rfl rfl rfl rfl rfl rfl ?_
 refine WO.nil (qs (W.seq (W.region ?_)))
 refine pE rfl ?_
 refine WO.nil (qs (W.ret ?_))
 refine QB1.end tab [4] trivial rfl rfl rfl rfl ?_ ?_
 · exact ⟨rfl, trivial⟩
 rfl
theorem known_fn (b : UInt8) : Does Tryd.prog 65 [.d (.v (.int .u8 b.toNat))] (.d (.v (.bool (known b)))) 0 := by
 refine Does.of_W (n := 17) (ts := [2]) Tryd.func65 (by kernel_rfl) rfl Tryd.ntmps65 Tryd.results65 rfl rfl fun C hC hG => ?_
 refine W.seq (W.region ?_)
 refine pE rfl ?_
 refine WO.nil (qs (W.seq ?_))
 apply regionB; (case hb => rfl)
 ·
  iterate 3 refine pE rfl ?_
  apply splitJ; (case hj => rfl); (case hl => rfl)
  ·
   iterate 2 refine skipT rfl rfl rfl rfl ?_
   iterate 2 refine pE rfl ?_
   iterate 3 refine skipT rfl rfl rfl rfl ?_
   iterate 2 refine skipU rfl rfl rfl ?_
   refine skipT rfl rfl rfl rfl ?_
   iterate 2 refine pE rfl ?_
   refine WO.nil ?_
   refine qv1 rfl rfl rfl
  ·
   refine goG rfl rfl ?_
   refine pE rfl ?_
   refine goG rfl rfl ?_
   iterate 3 refine pE rfl ?_
   apply splitJ; (case hj => rfl); (case hl => rfl)
   ·
    iterate 3 refine skipT rfl rfl rfl rfl ?_
    iterate 2 refine skipU rfl rfl rfl ?_
    refine skipT rfl rfl rfl rfl ?_
    iterate 2 refine pE rfl ?_
    refine WO.nil ?_
    refine qv1 rfl rfl rfl
   ·
    refine goG rfl rfl ?_
    refine pE rfl ?_
    refine goG rfl rfl ?_
    refine pE rfl ?_
    refine goG rfl rfl ?_
    refine pE rfl ?_
    apply splitJ; (case hj => rfl); (case hl => rfl)
    ·
     refine goG rfl rfl ?_
     refine pE rfl ?_
     refine goG rfl rfl ?_
     refine pE rfl ?_
     refine goG rfl rfl ?_
     iterate 3 refine pE rfl ?_
     refine WO.nil ?_
     refine qv1 rfl rfl rfl
    ·
     iterate 2 refine skipT rfl rfl rfl rfl ?_
     refine goG rfl rfl ?_
     iterate 3 refine pE rfl ?_
     refine WO.nil ?_
     refine qv1 rfl rfl rfl
 refine qs (W.ret ?_)
 refine QF.ret0 trivial rfl ?_
 show A.d (D.v (Value.bool _)) = A.d (D.v (Value.bool _)); congr 3; unfold known; generalize b.toNat = n; simp only [show ((n : Int) = 9) = (n = 9) from propext (by omega), show ((n : Int) = 10) = (n = 10) from propext (by omega), show ((32 : Int) ≤ n) = (32 ≤ n) from propext (by omega), show ((n : Int) ≤ 126) = (n ≤ 126) from propext (by omega)]; cases decide (n = 9) <;> cases decide (n = 10) <;> cases decide (32 ≤ n) <;> cases decide (n ≤ 126) <;> rfl
theorem plain_fn (s : ByteArray) : Does Tryd.prog 45 [.d (.v (.string s))] (.d (.v (.bool (plainB s)))) 0 := by
 refine Does.of_W (n := 15) (ts := [2]) Tryd.func45 (by kernel_rfl) rfl Tryd.ntmps45 Tryd.results45 rfl rfl fun C hC hG => ?_
 refine W.seq (W.region ?_)
 refine pE rfl ?_
 refine WO.nil (qs ?_)
 iterate 2 refine W.seq ?_
 refine W.region ?_
 iterate 3 refine pE rfl ?_
 refine WO.nil (qs (W.block ?_))
 refine W.inRange (t := 0) rfl (fun hok => ?_)
 have hlen := okc_size hok
 refine W.loopR (ι := {x : Nat // match x with | k => k ≤ (bys s).length ∧ ((bys s).drop k).all known = (bys s).all known})
  (fun x => match x.1 with | k => [(6, .d (.v (.int .i64 ((k : Nat) : Int))))]) [(0, _), (5, _)]
  (fun x => match x.1 with | k => []) [] [] 0 (fun x => match x.1 with | k => (bys s).length - k)
  [] ⟨0, ?_⟩ rfl ?_ ⟨rfl, rfl, rfl, rfl, trivial⟩ ?_ trivial rfl ?_
 · first | exact ⟨Nat.zero_le _, rfl⟩ | exact trivial | simp
 · repeat' first | exact trivial | refine ⟨rfl, ?_⟩ | refine ⟨congrArg some (renL_boxE _ _ _), ?_⟩ | refine ⟨step_nat (by assumption) (by assumption), ?_⟩
 · repeat' first | exact trivial | refine ⟨rfl, ?_⟩ | refine ⟨congrArg some (renL_boxE _ _ _), ?_⟩ | refine ⟨step_nat (by assumption) (by assumption), ?_⟩
 rintro ⟨k, hk, hI⟩
 show W _ _ _ _ _ ⟨[(6, .d (.v (.int .i64 ((k : Nat) : Int)))), (0, _), (5, _)], [], [], 0⟩
 refine W.seq (W.region ?_)
 refine pE rfl ?_
 refine WO.nil (qs (W.seq ?_))
 refine eachR (l := bys s) (k := k) rfl (by simp [Ex.kc_len, bytes_len]) hk (fun b hx hd hlt => ?_) (fun he hd => ?_)
 ·
  rw [hd, List.all_cons] at hI
  refine W.skip (qs (W.seq (W.block (W.seq (W.region ?_)))))
  iterate 2 refine pE rfl ?_
  refine WO.nil (qs (W.seq (W.region ?_)))
  iterate 2 refine pE rfl ?_
  refine pu (indexStr tab rfl rfl rfl rfl (Int.natCast_nonneg _) (byteList (by assumption))) rfl ?_
  refine pu (puCall rfl rfl rfl (known_fn ..) rfl) rfl ?_
  refine pE rfl ?_
  refine WO.nil (qs ?_)
  refine condK rfl (fun h13 => ?_) (fun h13 => ?_)
  ·
   refine W.seq (W.region ?_)
   refine pE rfl ?_
   refine WO.nil (qs (W.ret (qbRet (qsRet (qlRet (qbRet (qsRet ?_)))))))
   refine QF.ret0 trivial rfl ?_
   simp only [norm, oneA]; unfold plainB; rw [← hI]; simp_all
  ·
   refine W.skip (qbN (qs (W.region ?_)))
   iterate 2 refine pE rfl ?_
   refine WO.nil ?_
   refine W.endR [] ⟨k + 1, ?_⟩ ?_ rfl ?_ ⟨rfl, rfl, rfl, rfl, trivial⟩ ?_ trivial rfl
   · exact ⟨hlt, by rw [← hI]; simp_all⟩
   · dsimp only; omega
   · repeat' first | exact trivial | refine ⟨rfl, ?_⟩ | refine ⟨congrArg some (renL_boxE _ _ _), ?_⟩ | refine ⟨step_nat (by assumption) (by assumption), ?_⟩
   · repeat' first | exact trivial | refine ⟨rfl, ?_⟩ | refine ⟨congrArg some (renL_boxE _ _ _), ?_⟩ | refine ⟨step_nat (by assumption) (by assumption), ?_⟩
 ·
  rw [hd] at hI
  refine W.exit (qsExit (qlExit (qbExit (qs (W.seq (W.region ?_))))))
  refine pE rfl ?_
  refine WO.nil (qs (W.ret ?_))
  refine QF.ret0 trivial rfl ?_
  simp only [norm, oneA]; unfold plainB; rw [← hI]; simp_all
theorem len_add (a b : Nat) (ha : a ≤ maxLen) (hb : b ≤ maxLen) : decide (IntKind.i64.wrap ((a : Int) + (b : Int)) = 0) = decide (a + b = 0) := by
 have e : maxLen = 9223372036854775807 := rfl
 have h := wrap_zero (x := (a : Int) + (b : Int)) (by omega) (by omega)
 by_cases q : a + b = 0
 · rw [decide_eq_true q, decide_eq_true (h.2 (by omega))]
 · rw [decide_eq_false q, decide_eq_false (fun z => q (by have := h.1 z; omega))]
theorem fields_fn (j : JV) : Does Tryd.prog 43 [.ag j.c] (.d (.v (.bool (fieldsJ j)))) 0 := by
 refine Does.of_W (n := 91) (ts := [2]) Tryd.func43 (by kernel_rfl) rfl Tryd.ntmps43 Tryd.results43 rfl rfl fun C hC hG => ?_
 refine W.seq (W.region ?_)
 refine boxR rfl rfl rfl ?_
 refine pE rfl ?_
 refine WO.nil (qs ?_)
 iterate 2 refine W.seq ?_
 refine lenBox (g := 0) (j := 3) rfl rfl (fun hl3 => ?_)
 refine lenBox (g := 0) (j := 4) rfl rfl (fun hl4 => ?_)
 rw [List.length_map] at hl3
 rw [JV.kc_len] at hl4
 have hz := len_add _ _ hl3 hl4
 refine W.region ?_
 refine pE rfl ?_
 first | refine pE rfl ?_ | refine pR rfl rfl rfl rfl rfl ?_ | refine pB rfl rfl rfl rfl rfl rfl ?_
 refine WO.nil (qs (W.block (W.seq (W.region ?_))))
 iterate 2 refine pE rfl ?_
 refine WO.nil (qs ?_)
 refine condK rfl (fun h5 => ?_) (fun h5 => ?_)
 ·
  refine W.seq ?_
  apply regionB; (case hb => rfl)
  ·
   refine pE rfl ?_
   first | refine pE rfl ?_ | refine pR rfl rfl rfl rfl rfl ?_ | refine pB rfl rfl rfl rfl rfl rfl ?_
   iterate 2 refine pE rfl ?_
   apply splitJ; (case hj => rfl); (case hl => rfl)
   ·
    refine goG rfl rfl ?_
    refine pE rfl ?_
    refine goG rfl rfl ?_
    first | refine pE rfl ?_ | refine pR rfl rfl rfl rfl rfl ?_ | refine pB rfl rfl rfl rfl rfl rfl ?_
    refine goG rfl rfl ?_
    iterate 3 refine pE rfl ?_
    apply splitJ; (case hj => rfl); (case hl => rfl)
    ·
     refine goG rfl rfl ?_
     refine pE rfl ?_
     refine goG rfl rfl ?_
     first | refine pE rfl ?_ | refine pR rfl rfl rfl rfl rfl ?_ | refine pB rfl rfl rfl rfl rfl rfl ?_
     refine goG rfl rfl ?_
     refine pE rfl ?_
     refine goG rfl rfl ?_
     refine pE rfl ?_
     refine goG rfl rfl ?_
     first | refine pE rfl ?_ | refine pR rfl rfl rfl rfl rfl ?_ | refine pB rfl rfl rfl rfl rfl rfl ?_
     refine goG rfl rfl ?_
     refine pE rfl ?_
     refine goG rfl rfl ?_
     refine pE rfl ?_
     refine goG rfl rfl ?_
     iterate 3 refine pE rfl ?_
     refine WO.nil ?_
     refine qv1 rfl rfl rfl
    ·
     iterate 8 refine skipT rfl rfl rfl rfl ?_
     iterate 2 refine pE rfl ?_
     refine WO.nil ?_
     refine qv1 rfl rfl rfl
   ·
    iterate 3 refine skipT rfl rfl rfl rfl ?_
    iterate 2 refine pE rfl ?_
    iterate 8 refine skipT rfl rfl rfl rfl ?_
    iterate 2 refine pE rfl ?_
    refine WO.nil ?_
    refine qv1 rfl rfl rfl
  refine qs (W.ret (qbRet (qsRet ?_)))
  refine QF.ret0 trivial rfl ?_
  show A.d (D.v (Value.bool _)) = A.d (D.v (Value.bool _)); congr 3; unfold fieldsJ; try simp only [List.length_map, JV.kc_len, hz]
  simp only [decide_eq_true_eq, decide_eq_false_iff_not] at *; simp_all <;> grind
 ·
  iterate 2 refine W.seq ?_
  refine W.region ?_
  iterate 2 refine pE rfl ?_
  refine WO.nil (qs ?_)
  refine condK rfl (fun h25 => ?_) (fun h25 => ?_)
  ·
   refine W.skip (qs ?_)
   refine W.condT rfl ?_
   refine W.seq ?_
   apply regionB; (case hb => rfl)
   ·
    refine pE rfl ?_
    first | refine pE rfl ?_ | refine pR rfl rfl rfl rfl rfl ?_ | refine pB rfl rfl rfl rfl rfl rfl ?_
    iterate 2 refine pE rfl ?_
    apply splitJ; (case hj => rfl); (case hl => rfl)
    ·
     refine goG rfl rfl ?_
     refine pE rfl ?_
     refine goG rfl rfl ?_
     first | refine pE rfl ?_ | refine pR rfl rfl rfl rfl rfl ?_ | refine pB rfl rfl rfl rfl rfl rfl ?_
     refine goG rfl rfl ?_
     refine pE rfl ?_
     refine goG rfl rfl ?_
     refine pE rfl ?_
     refine goG rfl rfl ?_
     first | refine pE rfl ?_ | refine pR rfl rfl rfl rfl rfl ?_ | refine pB rfl rfl rfl rfl rfl rfl ?_
     refine goG rfl rfl ?_
     refine pE rfl ?_
     refine goG rfl rfl ?_
     refine pE rfl ?_
     refine goG rfl rfl ?_
     iterate 3 refine pE rfl ?_
     refine WO.nil ?_
     refine qv1 rfl rfl rfl
    ·
     iterate 8 refine skipT rfl rfl rfl rfl ?_
     iterate 2 refine pE rfl ?_
     refine WO.nil ?_
     refine qv1 rfl rfl rfl
   refine qs (W.ret (qbRet (qsRet ?_)))
   refine QF.ret0 trivial rfl ?_
   show A.d (D.v (Value.bool _)) = A.d (D.v (Value.bool _)); congr 3; unfold fieldsJ; try simp only [List.length_map, JV.kc_len, hz]
   simp only [decide_eq_true_eq, decide_eq_false_iff_not] at *; simp_all <;> grind
  ·
   refine W.region ?_
   iterate 2 refine pE rfl ?_
   refine WO.nil (qs ?_)
   refine condK rfl (fun h25 => ?_) (fun h25 => ?_)
   ·
    refine W.seq ?_
    apply regionB; (case hb => rfl)
    ·
     refine pE rfl ?_
     first | refine pE rfl ?_ | refine pR rfl rfl rfl rfl rfl ?_ | refine pB rfl rfl rfl rfl rfl rfl ?_
     iterate 2 refine pE rfl ?_
     apply splitJ; (case hj => rfl); (case hl => rfl)
     ·
      refine goG rfl rfl ?_
      refine pE rfl ?_
      refine goG rfl rfl ?_
      first | refine pE rfl ?_ | refine pR rfl rfl rfl rfl rfl ?_ | refine pB rfl rfl rfl rfl rfl rfl ?_
      refine goG rfl rfl ?_
      refine pE rfl ?_
      refine goG rfl rfl ?_
      refine pE rfl ?_
      refine goG rfl rfl ?_
      first | refine pE rfl ?_ | refine pR rfl rfl rfl rfl rfl ?_ | refine pB rfl rfl rfl rfl rfl rfl ?_
      refine goG rfl rfl ?_
      refine pE rfl ?_
      refine goG rfl rfl ?_
      refine pE rfl ?_
      refine goG rfl rfl ?_
      iterate 3 refine pE rfl ?_
      refine WO.nil ?_
      refine qv1 rfl rfl rfl
     ·
      iterate 8 refine skipT rfl rfl rfl rfl ?_
      iterate 2 refine pE rfl ?_
      refine WO.nil ?_
      refine qv1 rfl rfl rfl
    refine qs (W.ret (qbRet (qsRet ?_)))
    refine QF.ret0 trivial rfl ?_
    show A.d (D.v (Value.bool _)) = A.d (D.v (Value.bool _)); congr 3; unfold fieldsJ; try simp only [List.length_map, JV.kc_len, hz]
    simp only [decide_eq_true_eq, decide_eq_false_iff_not] at *; simp_all <;> grind
   ·
    refine W.seq (W.region ?_)
    iterate 2 refine pE rfl ?_
    refine WO.nil (qs ?_)
    refine condK rfl (fun h41 => ?_) (fun h41 => ?_)
    ·
     refine W.seq ?_
     apply regionB; (case hb => rfl)
     ·
      refine pE rfl ?_
      first | refine pE rfl ?_ | refine pR rfl rfl rfl rfl rfl ?_ | refine pB rfl rfl rfl rfl rfl rfl ?_
      iterate 2 refine pE rfl ?_
      apply splitJ; (case hj => rfl); (case hl => rfl)
      ·
       refine goG rfl rfl ?_
       refine pE rfl ?_
       refine goG rfl rfl ?_
       first | refine pE rfl ?_ | refine pR rfl rfl rfl rfl rfl ?_ | refine pB rfl rfl rfl rfl rfl rfl ?_
       refine goG rfl rfl ?_
       refine pE rfl ?_
       refine goG rfl rfl ?_
       refine pE rfl ?_
       refine goG rfl rfl ?_
       first | refine pE rfl ?_ | refine pR rfl rfl rfl rfl rfl ?_ | refine pB rfl rfl rfl rfl rfl rfl ?_
       refine goG rfl rfl ?_
       refine pE rfl ?_
       refine goG rfl rfl ?_
       refine pE rfl ?_
       refine goG rfl rfl ?_
       iterate 3 refine pE rfl ?_
       refine WO.nil ?_
       refine qv1 rfl rfl rfl
      ·
       iterate 8 refine skipT rfl rfl rfl rfl ?_
       iterate 2 refine pE rfl ?_
       refine WO.nil ?_
       refine qv1 rfl rfl rfl
     refine qs (W.ret (qbRet (qsRet ?_)))
     refine QF.ret0 trivial rfl ?_
     show A.d (D.v (Value.bool _)) = A.d (D.v (Value.bool _)); congr 3; unfold fieldsJ; try simp only [List.length_map, JV.kc_len, hz]
     simp only [decide_eq_true_eq, decide_eq_false_iff_not] at *; simp_all <;> grind
    ·
     refine W.seq (W.region ?_)
     iterate 2 refine pE rfl ?_
     refine WO.nil (qs ?_)
     refine condK rfl (fun h56 => ?_) (fun h56 => ?_)
     ·
      refine W.seq ?_
      apply regionB; (case hb => rfl)
      ·
       refine pE rfl ?_
       first | refine pE rfl ?_ | refine pR rfl rfl rfl rfl rfl ?_ | refine pB rfl rfl rfl rfl rfl rfl ?_
       iterate 2 refine pE rfl ?_
       apply splitJ; (case hj => rfl); (case hl => rfl)
       ·
        refine goG rfl rfl ?_
        refine pE rfl ?_
        refine goG rfl rfl ?_
        first | refine pE rfl ?_ | refine pR rfl rfl rfl rfl rfl ?_ | refine pB rfl rfl rfl rfl rfl rfl ?_
        refine goG rfl rfl ?_
        iterate 3 refine pE rfl ?_
        apply splitJ; (case hj => rfl); (case hl => rfl)
        ·
         refine goG rfl rfl ?_
         refine pE rfl ?_
         refine goG rfl rfl ?_
         first | refine pE rfl ?_ | refine pR rfl rfl rfl rfl rfl ?_ | refine pB rfl rfl rfl rfl rfl rfl ?_
         refine goG rfl rfl ?_
         refine pE rfl ?_
         refine goG rfl rfl ?_
         iterate 3 refine pE rfl ?_
         refine WO.nil ?_
         refine qv1 rfl rfl rfl
        ·
         iterate 4 refine skipT rfl rfl rfl rfl ?_
         iterate 2 refine pE rfl ?_
         refine WO.nil ?_
         refine qv1 rfl rfl rfl
       ·
        iterate 3 refine skipT rfl rfl rfl rfl ?_
        iterate 2 refine pE rfl ?_
        iterate 4 refine skipT rfl rfl rfl rfl ?_
        iterate 2 refine pE rfl ?_
        refine WO.nil ?_
        refine qv1 rfl rfl rfl
      refine qs (W.ret (qbRet (qsRet ?_)))
      refine QF.ret0 trivial rfl ?_
      show A.d (D.v (Value.bool _)) = A.d (D.v (Value.bool _)); congr 3; unfold fieldsJ; try simp only [List.length_map, JV.kc_len, hz]
      simp only [decide_eq_true_eq, decide_eq_false_iff_not] at *; simp_all <;> grind
     ·
      refine W.seq (W.region ?_)
      iterate 2 refine pE rfl ?_
      refine WO.nil (qs ?_)
      refine condK rfl (fun h72 => ?_) (fun h72 => ?_)
      ·
       refine W.seq ?_
       apply regionB; (case hb => rfl)
       ·
        refine pE rfl ?_
        first | refine pE rfl ?_ | refine pR rfl rfl rfl rfl rfl ?_ | refine pB rfl rfl rfl rfl rfl rfl ?_
        iterate 2 refine pE rfl ?_
        apply splitJ; (case hj => rfl); (case hl => rfl)
        ·
         refine goG rfl rfl ?_
         refine pE rfl ?_
         refine goG rfl rfl ?_
         first | refine pE rfl ?_ | refine pR rfl rfl rfl rfl rfl ?_ | refine pB rfl rfl rfl rfl rfl rfl ?_
         refine goG rfl rfl ?_
         iterate 3 refine pE rfl ?_
         apply splitJ; (case hj => rfl); (case hl => rfl)
         ·
          refine goG rfl rfl ?_
          refine pE rfl ?_
          refine goG rfl rfl ?_
          first | refine pE rfl ?_ | refine pR rfl rfl rfl rfl rfl ?_ | refine pB rfl rfl rfl rfl rfl rfl ?_
          refine goG rfl rfl ?_
          refine pE rfl ?_
          refine goG rfl rfl ?_
          refine pE rfl ?_
          refine goG rfl rfl ?_
          first | refine pE rfl ?_ | refine pR rfl rfl rfl rfl rfl ?_ | refine pB rfl rfl rfl rfl rfl rfl ?_
          refine goG rfl rfl ?_
          refine pE rfl ?_
          refine goG rfl rfl ?_
          iterate 3 refine pE rfl ?_
          refine WO.nil ?_
          refine qv1 rfl rfl rfl
         ·
          iterate 7 refine skipT rfl rfl rfl rfl ?_
          iterate 2 refine pE rfl ?_
          refine WO.nil ?_
          refine qv1 rfl rfl rfl
        ·
         iterate 3 refine skipT rfl rfl rfl rfl ?_
         iterate 2 refine pE rfl ?_
         iterate 7 refine skipT rfl rfl rfl rfl ?_
         iterate 2 refine pE rfl ?_
         refine WO.nil ?_
         refine qv1 rfl rfl rfl
       refine qs (W.ret (qbRet (qsRet ?_)))
       refine QF.ret0 trivial rfl ?_
       show A.d (D.v (Value.bool _)) = A.d (D.v (Value.bool _)); congr 3; unfold fieldsJ; try simp only [List.length_map, JV.kc_len, hz]
       simp only [decide_eq_true_eq, decide_eq_false_iff_not] at *; simp_all <;> grind
      ·
       refine W.skip (qbN (qs (W.seq (W.region ?_))))
       refine pE rfl ?_
       refine WO.nil (qs (W.ret ?_))
       refine QF.ret0 trivial rfl ?_
       show A.d (D.v (Value.bool _)) = A.d (D.v (Value.bool _)); congr 3; unfold fieldsJ; try simp only [List.length_map, JV.kc_len, hz]
       simp only [decide_eq_true_eq, decide_eq_false_iff_not] at *; simp_all <;> grind
theorem repeated_fn (l : List ByteArray) : Does Tryd.prog 48 [.d (.sl (l.map sc))] (.d (.v (.bool (rept [] l)))) 0 := by
 refine Does.of_W (n := 19) (ts := [2]) Tryd.func48 (by kernel_rfl) rfl Tryd.ntmps48 Tryd.results48 rfl rfl fun C hC hG => ?_
 refine W.seq (W.region ?_)
 refine pE rfl ?_
 refine WO.nil (qs (W.seq (W.region ?_)))
 refine mkMap rfl ?_
 refine pE rfl ?_
 refine WO.nil (qs ?_)
 iterate 2 refine W.seq ?_
 refine W.region ?_
 iterate 3 refine pE rfl ?_
 refine WO.nil (qs (W.block ?_))
 refine W.len (t := 7) rfl rfl (fun hlen => ?_)
 try simp only [List.length_map, Ex.kc_len] at hlen
 refine W.loopR (ι := {x : Nat // match x with | k => k ≤ l.length ∧ (l.take k).Nodup ∧ rept (l.take k) (l.drop k) = rept [] l})
  (fun x => match x.1 with | k => [(3, .mp 0 (mes sk bv (seenM (l.take k)))), (9, .d (.v (.int .i64 ((k : Nat) : Int))))]) [(7, _), (8, _)]
  (fun x => match x.1 with | k => []) [] [0] 1 (fun x => match x.1 with | k => l.length - k)
  [0] ⟨0, ?_⟩ rfl ?_ ⟨rfl, rfl, rfl, rfl, trivial⟩ ?_ trivial rfl ?_
 · exact ⟨Nat.zero_le _, by simp, by simp⟩
 · repeat' first | exact trivial | refine ⟨rfl, ?_⟩ | refine ⟨congrArg some (renL_boxE _ _ _), ?_⟩ | refine ⟨step_nat (by assumption) (by assumption), ?_⟩
 · repeat' first | exact trivial | refine ⟨rfl, ?_⟩ | refine ⟨congrArg some (renL_boxE _ _ _), ?_⟩ | refine ⟨step_nat (by assumption) (by assumption), ?_⟩
 rintro ⟨k, hk, hn, hI⟩
 show W _ _ _ _ _ ⟨[(3, .mp 0 (mes sk bv (seenM (l.take k)))), (9, .d (.v (.int .i64 ((k : Nat) : Int)))), (7, _), (8, _)], [], [0], 1⟩
 refine W.seq (W.region ?_)
 refine pE rfl ?_
 refine WO.nil (qs (W.seq ?_))
 refine eachR (l := l) (k := k) rfl (by simp [Ex.kc_len, bytes_len]) hk (fun s hx hd hlt => ?_) (fun he hd => ?_)
 ·
  rw [hd] at hI
  simp only [rept] at hI
  have htk : l.take (k + 1) = l.take k ++ [s] := by rw [List.take_add_one, hx]; rfl
  refine W.skip (qs (W.seq (W.block (W.seq (W.region ?_)))))
  refine pu (indexAddr tab rfl rfl rfl rfl rfl rfl (Int.natCast_nonneg _) (idx_map hx) rfl) rfl ?_
  first | refine pE rfl ?_ | refine pR rfl rfl rfl rfl rfl ?_ | refine pB rfl rfl rfl rfl rfl rfl ?_
  refine pE rfl ?_
  refine WO.nil (qs ?_)
  iterate 2 refine W.seq ?_
  refine W.region ?_
  iterate 2 refine pE rfl ?_
  refine pu (mapGet (kf := sk) (vf := bv) (l := seenM (l.take k)) (a := s) (z := false) (zx := .bool false) tab rfl rfl rfl rfl rfl (keyStr (tab.u_str rfl rfl)) rfl rfl rfl (fun w pv => .v _ rfl) (by rw [seenM_keys]; exact hn) (congrArg bv (seenM_get hn s))) rfl ?_
  refine WO.nil (qs ?_)
  refine condK rfl (fun h15 => ?_) (fun h15 => ?_)
  ·
   rw [if_pos h15] at hI
   refine W.seq (W.region ?_)
   refine pE rfl ?_
   refine WO.nil (qs (W.ret (qsRet (qbRet (qsRet (qlRet (qbRet (qsRet ?_))))))))
   refine QF.ret0 trivial rfl ?_
   simp only [norm, oneA]; rw [← hI]
  ·
   rw [if_neg (by simp [h15])] at hI
   have hn2 := nodup_snoc hn h15
   refine W.skip (qs (W.region ?_))
   iterate 2 refine pE rfl ?_
   refine mapPut (kf := sk) (vf := bv) (l := seenM (l.take k)) (a := s) (y := true) tab 3 rfl rfl rfl rfl rfl rfl rfl (keyStr (tab.u_str rfl rfl)) rfl rfl (by rw [seenM_keys]; exact hn) (congrArg (mes sk bv) ((seenM_put h15).trans (congrArg seenM htk.symm))) rfl ?_
   refine WO.nil (qbN (qs (W.region ?_)))
   iterate 2 refine pE rfl ?_
   refine WO.nil ?_
   refine W.endR [1] ⟨k + 1, ?_⟩ ?_ rfl ?_ ⟨rfl, rfl, rfl, rfl, trivial⟩ ?_ trivial rfl
   · exact ⟨hlt, by rw [htk]; exact hn2, by rw [htk]; exact hI⟩
   · dsimp only; omega
   · repeat' first | exact trivial | refine ⟨rfl, ?_⟩ | refine ⟨congrArg some (renL_boxE _ _ _), ?_⟩ | refine ⟨step_nat (by assumption) (by assumption), ?_⟩
   · repeat' first | exact trivial | refine ⟨rfl, ?_⟩ | refine ⟨congrArg some (renL_boxE _ _ _), ?_⟩ | refine ⟨step_nat (by assumption) (by assumption), ?_⟩
 ·
  rw [hd] at hI
  simp only [rept] at hI
  refine W.exit (qsExit (qlExit (qbExit (qs (W.seq (W.region ?_))))))
  refine pE rfl ?_
  refine WO.nil (qs (W.ret ?_))
  refine QF.ret0 trivial rfl ?_
  simp only [norm, oneA]; rw [← hI]
end Go.Proofs.YtllkpgnpioojjaaDoor
namespace Go.Proofs.YtllkpgnpioojjaaDoor
open Go.Ab Go.Tb
set_option maxRecDepth 10000
attribute [local irreducible] W WO Pu QS QB QL QF QV QV1 CH QE
theorem jc_map (j : JV) : j.c = [ci j.op, ci j.n, cs j.s, .sl (j.keys.map sc), .sl (j.kids.map JV.c)] := by unfold JV.c; rw [JV.kc_eq]
theorem checkJ_eq (j : JV) (level : Int) : checkJ j level = if nodeJ j level ≠ 0 then nodeJ j level else checkJs j.kids (level + 1) := by cases j; simp only [checkJ, JV.kids]
theorem notplain_fn (s : ByteArray) : Does Tryd.prog 47 [.d (.v (.string s))] (.d (.v (.bool (!plainB s)))) 0 := by
 refine Does.of_W (n := 6) (ts := [2]) Tryd.func47 (by kernel_rfl) rfl Tryd.ntmps47 Tryd.results47 rfl rfl fun C hC hG => ?_
 refine W.seq (W.region ?_)
 refine pE rfl ?_
 refine WO.nil (qs (W.seq (W.region ?_)))
 refine pE rfl ?_
 refine pu (puCall rfl rfl rfl (plain_fn ..) rfl) rfl ?_
 iterate 2 refine pE rfl ?_
 refine WO.nil (qs (W.ret ?_))
 refine QF.ret0 trivial rfl ?_
 rfl
theorem check_fn : ∀ (j : JV) (level : Int), 0 ≤ level → level ≤ 17 → Does Tryd.prog 27 [.ag j.c, .d (.v (.int .i64 level))] (.d (.v (.int .i64 (checkJ j level)))) 0 := by
 refine JV.ind fun j ih => ?_
 intro level h0 h1
 have hfj := fields_fn j
 rw [jc_map j] at hfj ⊢
 have hkids : fieldsJ j = true → j.op < 5 → j.kids = [] := by
  intro hf hop
  unfold fieldsJ at hf
  have e5 : ¬ j.op = 5 := by omega
  have e6 : ¬ j.op = 6 := by omega
  rw [if_neg e5, if_neg e6] at hf
  refine List.length_eq_zero_iff.1 ?_
  split at hf
  · simp only [Bool.and_eq_true, decide_eq_true_eq] at hf; omega
  ·
   split at hf
   · simp only [Bool.and_eq_true, decide_eq_true_eq] at hf; omega
   ·
    split at hf
    · simp only [Bool.and_eq_true, decide_eq_true_eq] at hf; omega
    · cases hf
 refine Does.of_W (n := 70) (ts := [4]) Tryd.func27 (by kernel_rfl) rfl Tryd.ntmps27 Tryd.results27 rfl rfl fun C hC hG => ?_
 refine W.seq (W.region ?_)
 refine boxR rfl rfl rfl ?_
 refine pE rfl ?_
 refine WO.nil (qs (W.seq (W.block (W.seq (W.region ?_)))))
 first | refine pE rfl ?_ | refine pR rfl rfl rfl rfl rfl ?_ | refine pB rfl rfl rfl rfl rfl rfl ?_
 refine pu (puCall rfl rfl rfl hfj rfl) rfl ?_
 iterate 2 refine pE rfl ?_
 refine WO.nil (qs ?_)
 refine condK rfl (fun h8 => ?_) (fun h8 => ?_)
 ·
  refine W.seq (W.region ?_)
  refine pE rfl ?_
  refine WO.nil (qs (W.ret (qbRet (qsRet ?_))))
  refine QF.ret0 trivial rfl ?_
  clear ih hfj; show A.d (D.v (Value.int _ _)) = A.d (D.v (Value.int _ _)); congr 3; rw [checkJ_eq j]; unfold nodeJ; grind
 ·
  iterate 2 refine W.seq ?_
  apply regionB; (case hb => rfl)
  ·
   refine pE rfl ?_
   first | refine pE rfl ?_ | refine pR rfl rfl rfl rfl rfl ?_ | refine pB rfl rfl rfl rfl rfl rfl ?_
   iterate 2 refine pE rfl ?_
   apply splitJ; (case hj => rfl); (case hl => rfl)
   ·
    refine goG rfl rfl ?_
    refine pE rfl ?_
    refine goG rfl rfl ?_
    first | refine pE rfl ?_ | refine pR rfl rfl rfl rfl rfl ?_ | refine pB rfl rfl rfl rfl rfl rfl ?_
    refine goG rfl rfl ?_
    iterate 3 refine pE rfl ?_
    apply splitJ; (case hj => rfl); (case hl => rfl)
    ·
     refine goG rfl rfl ?_
     refine pE rfl ?_
     refine goG rfl rfl ?_
     first | refine pE rfl ?_ | refine pR rfl rfl rfl rfl rfl ?_ | refine pB rfl rfl rfl rfl rfl rfl ?_
     refine goG rfl rfl ?_
     iterate 3 refine pE rfl ?_
     refine WO.nil ?_
     refine qv1 rfl rfl rfl
    ·
     iterate 3 refine skipT rfl rfl rfl rfl ?_
     iterate 2 refine pE rfl ?_
     refine WO.nil ?_
     refine qv1 rfl rfl rfl
   ·
    iterate 3 refine skipT rfl rfl rfl rfl ?_
    iterate 2 refine pE rfl ?_
    iterate 3 refine skipT rfl rfl rfl rfl ?_
    iterate 2 refine pE rfl ?_
    refine WO.nil ?_
    refine qv1 rfl rfl rfl
  refine qs ?_
  refine condK rfl (fun h12 => ?_) (fun h12 => ?_)
  ·
   refine W.skip (qs ?_)
   refine W.condT rfl ?_
   refine W.seq (W.region ?_)
   refine pE rfl ?_
   refine WO.nil (qs (W.ret (qbRet (qsRet ?_))))
   refine QF.ret0 trivial rfl ?_
   clear ih hfj; show A.d (D.v (Value.int _ _)) = A.d (D.v (Value.int _ _)); congr 3; rw [checkJ_eq j]; unfold nodeJ; grind
  ·
   apply regionB; (case hb => rfl)
   ·
    refine pE rfl ?_
    first | refine pE rfl ?_ | refine pR rfl rfl rfl rfl rfl ?_ | refine pB rfl rfl rfl rfl rfl rfl ?_
    iterate 2 refine pE rfl ?_
    apply splitJ; (case hj => rfl); (case hl => rfl)
    ·
     refine goG rfl rfl ?_
     refine pE rfl ?_
     refine goG rfl rfl ?_
     first | refine pE rfl ?_ | refine pR rfl rfl rfl rfl rfl ?_ | refine pB rfl rfl rfl rfl rfl rfl ?_
     refine goG rfl rfl ?_
     refine pu (puCall rfl rfl rfl (in_fn ..) rfl) rfl ?_
     refine goG rfl rfl ?_
     iterate 3 refine pE rfl ?_
     refine WO.nil ?_
     refine qv1 rfl rfl rfl
    ·
     iterate 4 refine skipT rfl rfl rfl rfl ?_
     iterate 2 refine pE rfl ?_
     refine WO.nil ?_
     refine qv1 rfl rfl rfl
   refine qs ?_
   refine condK rfl (fun h12 => ?_) (fun h12 => ?_)
   ·
    refine W.seq (W.region ?_)
    refine pE rfl ?_
    refine WO.nil (qs (W.ret (qbRet (qsRet ?_))))
    refine QF.ret0 trivial rfl ?_
    clear ih hfj; show A.d (D.v (Value.int _ _)) = A.d (D.v (Value.int _ _)); congr 3; rw [checkJ_eq j]; unfold nodeJ; grind
   ·
    iterate 2 refine W.seq ?_
    refine W.region ?_
    refine pE rfl ?_
    first | refine pE rfl ?_ | refine pR rfl rfl rfl rfl rfl ?_ | refine pB rfl rfl rfl rfl rfl rfl ?_
    refine pu (puCall rfl rfl rfl (plain_fn ..) rfl) rfl ?_
    iterate 2 refine pE rfl ?_
    refine WO.nil (qs ?_)
    refine condK rfl (fun h35 => ?_) (fun h35 => ?_)
    ·
     refine W.skip (qs ?_)
     refine W.condT rfl ?_
     refine W.seq (W.region ?_)
     refine pE rfl ?_
     refine WO.nil (qs (W.ret (qbRet (qsRet ?_))))
     refine QF.ret0 trivial rfl ?_
     clear ih hfj; show A.d (D.v (Value.int _ _)) = A.d (D.v (Value.int _ _)); congr 3; rw [checkJ_eq j]; unfold nodeJ; grind
    ·
     refine W.region ?_
     refine pE rfl ?_
     first | refine pE rfl ?_ | refine pR rfl rfl rfl rfl rfl ?_ | refine pB rfl rfl rfl rfl rfl rfl ?_
     refine pu (puCall rfl rfl rfl (containsStr_fn _ [] ⟨fun _ _ => rfl, rfl⟩ _ notplain_fn j.keys) rfl) rfl ?_
     refine pE rfl ?_
     refine WO.nil (qs ?_)
     refine condK rfl (fun h35 => ?_) (fun h35 => ?_)
     ·
      refine W.seq (W.region ?_)
      refine pE rfl ?_
      refine WO.nil (qs (W.ret (qbRet (qsRet ?_))))
      refine QF.ret0 trivial rfl ?_
      clear ih hfj; show A.d (D.v (Value.int _ _)) = A.d (D.v (Value.int _ _)); congr 3; rw [checkJ_eq j]; unfold nodeJ; grind
     ·
      refine W.seq (W.region ?_)
      refine pE rfl ?_
      first | refine pE rfl ?_ | refine pR rfl rfl rfl rfl rfl ?_ | refine pB rfl rfl rfl rfl rfl rfl ?_
      refine pu (puCall rfl rfl rfl (repeated_fn ..) rfl) rfl ?_
      refine pE rfl ?_
      refine WO.nil (qs ?_)
      refine condK rfl (fun h43 => ?_) (fun h43 => ?_)
      ·
       refine W.seq (W.region ?_)
       refine pE rfl ?_
       refine WO.nil (qs (W.ret (qbRet (qsRet ?_))))
       refine QF.ret0 trivial rfl ?_
       clear ih hfj; show A.d (D.v (Value.int _ _)) = A.d (D.v (Value.int _ _)); congr 3; rw [checkJ_eq j]; unfold nodeJ; grind
      ·
       refine W.seq ?_
       apply regionB; (case hb => rfl)
       ·
        refine pE rfl ?_
        first | refine pE rfl ?_ | refine pR rfl rfl rfl rfl rfl ?_ | refine pB rfl rfl rfl rfl rfl rfl ?_
        iterate 2 refine pE rfl ?_
        apply splitJ; (case hj => rfl); (case hl => rfl)
        ·
         refine goG rfl rfl ?_
         refine pE rfl ?_
         refine goG rfl rfl ?_
         iterate 3 refine pE rfl ?_
         refine WO.nil ?_
         refine qv1 rfl rfl rfl
        ·
         iterate 2 refine skipT rfl rfl rfl rfl ?_
         iterate 2 refine pE rfl ?_
         refine WO.nil ?_
         refine qv1 rfl rfl rfl
       refine qs ?_
       refine condK rfl (fun h47 => ?_) (fun h47 => ?_)
       ·
        refine W.seq (W.region ?_)
        refine pE rfl ?_
        refine WO.nil (qs (W.ret (qbRet (qsRet ?_))))
        refine QF.ret0 trivial rfl ?_
        clear ih hfj; show A.d (D.v (Value.int _ _)) = A.d (D.v (Value.int _ _)); congr 3; rw [checkJ_eq j]; unfold nodeJ; grind
       ·
        refine W.skip (qbN (qs ?_))
        iterate 2 refine W.seq ?_
        refine W.region ?_
        refine pE rfl ?_
        first | refine pE rfl ?_ | refine pR rfl rfl rfl rfl rfl ?_ | refine pB rfl rfl rfl rfl rfl rfl ?_
        iterate 2 refine pE rfl ?_
        refine WO.nil (qs (W.block ?_))
        refine W.len (t := 56) rfl rfl (fun hlen => ?_)
        try simp only [List.length_map, Ex.kc_len] at hlen
        refine W.loopR (ι := {x : Nat // match x with | k => k ≤ j.kids.length ∧ checkJs (j.kids.drop k) (level + 1) = checkJs j.kids (level + 1)})
         (fun x => match x.1 with | k => [(58, .d (.v (.int .i64 ((k : Nat) : Int))))]) [(1, _), (56, _), (57, _)]
         (fun x => match x.1 with | k => []) [] [] 0 (fun x => match x.1 with | k => j.kids.length - k)
         [] ⟨0, ?_⟩ rfl ?_ ⟨rfl, rfl, rfl, rfl, rfl, rfl, trivial⟩ ?_ trivial rfl ?_
        · exact ⟨Nat.zero_le _, by simp⟩
        · repeat' first | exact trivial | refine ⟨rfl, ?_⟩ | refine ⟨congrArg some (renL_boxE _ _ _), ?_⟩ | refine ⟨step_nat (by assumption) (by assumption), ?_⟩
        · repeat' first | exact trivial | refine ⟨rfl, ?_⟩ | refine ⟨congrArg some (renL_boxE _ _ _), ?_⟩ | refine ⟨step_nat (by assumption) (by assumption), ?_⟩
        rintro ⟨k, hk, hI⟩
        show W _ _ _ _ _ ⟨[(58, .d (.v (.int .i64 ((k : Nat) : Int)))), (1, _), (56, _), (57, _)], [], [], 0⟩
        refine W.seq (W.region ?_)
        refine pE rfl ?_
        refine WO.nil (qs (W.seq ?_))
        refine eachR (l := j.kids) (k := k) rfl (by simp [Ex.kc_len, bytes_len]) hk (fun x hx hd hlt => ?_) (fun he hd => ?_)
        ·
         rw [hd] at hI
         simp only [checkJs] at hI
         have hlv : level ≤ 16 := by
          by_cases q : j.op < 5
          · rw [hkids (by simpa using h8) q] at hlt; simp at hlt
          · revert h47; simp; omega
         have hxc := ih x (List.mem_of_getElem? hx) (level + 1) (by omega) (by omega)
         refine W.skip (qs (W.seq (W.block (W.seq (W.region ?_)))))
         refine pu (indexAddr tab rfl rfl rfl rfl rfl rfl (Int.natCast_nonneg _) (idx_map hx) rfl) rfl ?_
         first | refine pE rfl ?_ | refine pR rfl rfl rfl rfl rfl ?_ | refine pB rfl rfl rfl rfl rfl rfl ?_
         refine allocR tab rfl rfl rfl ?_
         refine storeR tab rfl rfl rfl rfl rfl rfl rfl rfl ?_
         refine WO.nil (qs (W.seq (W.region ?_)))
         first | refine pE rfl ?_ | refine pR rfl rfl rfl rfl rfl ?_ | refine pB rfl rfl rfl rfl rfl rfl ?_
         refine pE rfl ?_
         refine pu (puI (ev tab rfl) (wrap64 (by omega))) rfl ?_
         refine pu (puCall rfl rfl rfl hxc rfl) rfl ?_
         refine pE rfl ?_
         refine WO.nil (qs (W.seq (W.region ?_)))
         iterate 2 refine pE rfl ?_
         refine WO.nil (qs ?_)
         refine condK rfl (fun h67 => ?_) (fun h67 => ?_)
         ·
          have hc : checkJ x (level + 1) ≠ 0 := by simpa using h67
          rw [if_pos hc] at hI
          refine W.seq (W.region ?_)
          iterate 2 refine pE rfl ?_
          refine WO.nil (qs (W.ret (qbRet (qsRet (qlRet (qbRet (qsRet ?_)))))))
          refine QF.ret0 trivial rfl ?_
          clear ih hfj; show A.d (D.v (Value.int _ _)) = A.d (D.v (Value.int _ _)); congr 3; rw [checkJ_eq j]; unfold nodeJ; grind
         ·
          have hc : checkJ x (level + 1) = 0 := by simpa using h67
          rw [if_neg (by simp [hc])] at hI
          refine W.skip (qbN (qs (W.region ?_)))
          iterate 2 refine pE rfl ?_
          refine WO.nil ?_
          refine W.endR [] ⟨k + 1, ?_⟩ ?_ rfl ?_ ⟨rfl, rfl, rfl, rfl, rfl, rfl, trivial⟩ ?_ trivial rfl
          · exact ⟨hlt, hI⟩
          · dsimp only; omega
          · repeat' first | exact trivial | refine ⟨rfl, ?_⟩ | refine ⟨congrArg some (renL_boxE _ _ _), ?_⟩ | refine ⟨step_nat (by assumption) (by assumption), ?_⟩
          · repeat' first | exact trivial | refine ⟨rfl, ?_⟩ | refine ⟨congrArg some (renL_boxE _ _ _), ?_⟩ | refine ⟨step_nat (by assumption) (by assumption), ?_⟩
        ·
         rw [hd] at hI
         simp only [checkJs] at hI
         refine W.exit (qsExit (qlExit (qbExit (qs (W.seq (W.region ?_))))))
         refine pE rfl ?_
         refine WO.nil (qs (W.ret ?_))
         refine QF.ret0 trivial rfl ?_
         clear ih hfj; show A.d (D.v (Value.int _ _)) = A.d (D.v (Value.int _ _)); congr 3; rw [checkJ_eq j]; unfold nodeJ; grind
end Go.Proofs.YtllkpgnpioojjaaDoor
namespace Go.Proofs.YtllkpgnpioojjaaDoor
open Go.Ab Go.Tb
set_option maxRecDepth 10000
attribute [local irreducible] W WO Pu QS QB QL QF QV QV1 CH QE
theorem printable_fn (b : UInt8) : Does Tryd.prog 80 [.d (.v (.int .u8 b.toNat))] (.d (.v (.bool (known b)))) 0 := by
 refine Does.of_W (n := 17) (ts := [2]) Tryd.func80 (by kernel_rfl) rfl Tryd.ntmps80 Tryd.results80 rfl rfl fun C hC hG => ?_
 refine W.seq (W.region ?_)
 refine pE rfl ?_
 refine WO.nil (qs (W.seq ?_))
 apply regionB; (case hb => rfl)
 ·
  iterate 3 refine pE rfl ?_
  apply splitJ; (case hj => rfl); (case hl => rfl)
  ·
   iterate 2 refine skipT rfl rfl rfl rfl ?_
   iterate 2 refine pE rfl ?_
   iterate 3 refine skipT rfl rfl rfl rfl ?_
   iterate 2 refine skipU rfl rfl rfl ?_
   refine skipT rfl rfl rfl rfl ?_
   iterate 2 refine pE rfl ?_
   refine WO.nil ?_
   refine qv1 rfl rfl rfl
  ·
   refine goG rfl rfl ?_
   refine pE rfl ?_
   refine goG rfl rfl ?_
   iterate 3 refine pE rfl ?_
   apply splitJ; (case hj => rfl); (case hl => rfl)
   ·
    iterate 3 refine skipT rfl rfl rfl rfl ?_
    iterate 2 refine skipU rfl rfl rfl ?_
    refine skipT rfl rfl rfl rfl ?_
    iterate 2 refine pE rfl ?_
    refine WO.nil ?_
    refine qv1 rfl rfl rfl
   ·
    refine goG rfl rfl ?_
    refine pE rfl ?_
    refine goG rfl rfl ?_
    refine pE rfl ?_
    refine goG rfl rfl ?_
    refine pE rfl ?_
    apply splitJ; (case hj => rfl); (case hl => rfl)
    ·
     refine goG rfl rfl ?_
     refine pE rfl ?_
     refine goG rfl rfl ?_
     refine pE rfl ?_
     refine goG rfl rfl ?_
     iterate 3 refine pE rfl ?_
     refine WO.nil ?_
     refine qv1 rfl rfl rfl
    ·
     iterate 2 refine skipT rfl rfl rfl rfl ?_
     refine goG rfl rfl ?_
     iterate 3 refine pE rfl ?_
     refine WO.nil ?_
     refine qv1 rfl rfl rfl
 refine qs (W.ret ?_)
 refine QF.ret0 trivial rfl ?_
 show A.d (D.v (Value.bool _)) = A.d (D.v (Value.bool _)); congr 3; unfold known; generalize b.toNat = n; simp only [show ((n : Int) = 9) = (n = 9) from propext (by omega), show ((n : Int) = 10) = (n = 10) from propext (by omega), show ((32 : Int) ≤ n) = (32 ≤ n) from propext (by omega), show ((n : Int) ≤ 126) = (n ≤ 126) from propext (by omega)]; cases decide (n = 9) <;> cases decide (n = 10) <;> cases decide (32 ≤ n) <;> cases decide (n ≤ 126) <;> rfl
theorem clean_fn (s : ByteArray) : Does Tryd.prog 68 [.d (.v (.string s))] (.d (.v (.bool (plainB s)))) 0 := by
 refine Does.of_W (n := 15) (ts := [2]) Tryd.func68 (by kernel_rfl) rfl Tryd.ntmps68 Tryd.results68 rfl rfl fun C hC hG => ?_
 refine W.seq (W.region ?_)
 refine pE rfl ?_
 refine WO.nil (qs ?_)
 iterate 2 refine W.seq ?_
 refine W.region ?_
 refine pE rfl ?_
 refine WO.nil (qs (W.block ?_))
 refine W.inRange (t := 0) rfl (fun hok => ?_)
 have hlen := okc_size hok
 refine W.loopR (ι := {x : Nat // match x with | k => k ≤ (bys s).length ∧ ((bys s).drop k).all known = (bys s).all known})
  (fun x => match x.1 with | k => [(3, .d (.v (.int .i64 ((k : Nat) : Int))))]) [(0, _)]
  (fun x => match x.1 with | k => []) [] [] 0 (fun x => match x.1 with | k => (bys s).length - k)
  [] ⟨0, ?_⟩ rfl ?_ ⟨rfl, rfl, trivial⟩ ?_ trivial rfl ?_
 · first | exact ⟨Nat.zero_le _, rfl⟩ | exact trivial | simp
 · repeat' first | exact trivial | refine ⟨rfl, ?_⟩ | refine ⟨congrArg some (renL_boxE _ _ _), ?_⟩ | refine ⟨step_nat (by assumption) (by assumption), ?_⟩
 · repeat' first | exact trivial | refine ⟨rfl, ?_⟩ | refine ⟨congrArg some (renL_boxE _ _ _), ?_⟩ | refine ⟨step_nat (by assumption) (by assumption), ?_⟩
 rintro ⟨k, hk, hI⟩
 show W _ _ _ _ _ ⟨[(3, .d (.v (.int .i64 ((k : Nat) : Int)))), (0, _)], [], [], 0⟩
 iterate 2 refine W.seq ?_
 refine W.region ?_
 iterate 4 refine pE rfl ?_
 refine WO.nil (qs ?_)
 refine eachR (l := bys s) (k := k) rfl (by simp [Ex.kc_len, bytes_len]) hk (fun b hx hd hlt => ?_) (fun he hd => ?_)
 ·
  rw [hd, List.all_cons] at hI
  refine W.skip (qs (W.seq (W.block (W.seq (W.region ?_)))))
  iterate 2 refine pE rfl ?_
  refine pu (indexStr tab rfl rfl rfl rfl (Int.natCast_nonneg _) (byteList (by assumption))) rfl ?_
  refine pu (puCall rfl rfl rfl (printable_fn ..) rfl) rfl ?_
  refine pE rfl ?_
  refine WO.nil (qs ?_)
  refine condK rfl (fun h14 => ?_) (fun h14 => ?_)
  ·
   refine W.seq (W.region ?_)
   refine pE rfl ?_
   refine WO.nil (qs (W.ret (qbRet (qsRet (qlRet (qbRet (qsRet ?_)))))))
   refine QF.ret0 trivial rfl ?_
   simp only [norm, oneA]; unfold plainB; rw [← hI]; simp_all
  ·
   refine W.skip (qbN (qs (W.region ?_)))
   iterate 3 refine pE rfl ?_
   refine WO.nil ?_
   refine W.endR [] ⟨k + 1, ?_⟩ ?_ rfl ?_ ⟨rfl, rfl, trivial⟩ ?_ trivial rfl
   · exact ⟨hlt, by rw [← hI]; simp_all⟩
   · dsimp only; omega
   · repeat' first | exact trivial | refine ⟨rfl, ?_⟩ | refine ⟨congrArg some (renL_boxE _ _ _), ?_⟩ | refine ⟨step_nat (by assumption) (by assumption), ?_⟩
   · repeat' first | exact trivial | refine ⟨rfl, ?_⟩ | refine ⟨congrArg some (renL_boxE _ _ _), ?_⟩ | refine ⟨step_nat (by assumption) (by assumption), ?_⟩
 ·
  rw [hd] at hI
  refine W.exit (qsExit (qlExit (qbExit (qs (W.seq (W.region ?_))))))
  refine pE rfl ?_
  refine WO.nil (qs (W.ret ?_))
  refine QF.ret0 trivial rfl ?_
  simp only [norm, oneA]; unfold plainB; rw [← hI]; simp_all
theorem has21_fn (l : List ByteArray) (s : ByteArray) : Does Tryd.prog 69 [.d (.sl (l.map sc)), .d (.v (.string s))] (.d (.v (.bool (l.any fun x => decide (x = s))))) 0 := by
 refine Does.of_W (n := 18) (ts := [4]) Tryd.func69 (by kernel_rfl) rfl Tryd.ntmps69 Tryd.results69 rfl rfl fun C hC hG => ?_
 refine W.seq (W.region ?_)
 refine pE rfl ?_
 refine WO.nil (qs ?_)
 iterate 2 refine W.seq ?_
 refine W.region ?_
 refine pE rfl ?_
 refine WO.nil (qs (W.block ?_))
 refine W.len (t := 0) rfl rfl (fun hlen => ?_)
 try simp only [List.length_map, Ex.kc_len] at hlen
 refine W.loopR (ι := {x : Nat // match x with | k => k ≤ l.length ∧ (l.drop k).any (fun x => decide (x = s)) = l.any (fun x => decide (x = s))})
  (fun x => match x.1 with | k => [(5, .d (.v (.int .i64 ((k : Nat) : Int))))]) [(0, _), (1, _)]
  (fun x => match x.1 with | k => []) [] [] 0 (fun x => match x.1 with | k => l.length - k)
  [] ⟨0, ?_⟩ rfl ?_ ⟨rfl, rfl, rfl, rfl, trivial⟩ ?_ trivial rfl ?_
 · exact ⟨Nat.zero_le _, by simp⟩
 · repeat' first | exact trivial | refine ⟨rfl, ?_⟩ | refine ⟨congrArg some (renL_boxE _ _ _), ?_⟩ | refine ⟨step_nat (by assumption) (by assumption), ?_⟩
 · repeat' first | exact trivial | refine ⟨rfl, ?_⟩ | refine ⟨congrArg some (renL_boxE _ _ _), ?_⟩ | refine ⟨step_nat (by assumption) (by assumption), ?_⟩
 rintro ⟨k, hk, hI⟩
 show W _ _ _ _ _ ⟨[(5, .d (.v (.int .i64 ((k : Nat) : Int)))), (0, _), (1, _)], [], [], 0⟩
 iterate 2 refine W.seq ?_
 refine W.region ?_
 iterate 4 refine pE rfl ?_
 refine WO.nil (qs ?_)
 refine eachR (l := l) (k := k) rfl (by simp [Ex.kc_len, bytes_len]) hk (fun x hx hd hlt => ?_) (fun he hd => ?_)
 ·
  rw [hd, List.any_cons] at hI
  refine W.skip (qs (W.seq (W.block (W.seq (W.region ?_)))))
  iterate 2 refine pE rfl ?_
  refine pu (indexAddr tab rfl rfl rfl rfl rfl rfl (Int.natCast_nonneg _) (idx_map (by assumption)) rfl) rfl ?_
  first | refine pE rfl ?_ | refine pR rfl rfl rfl rfl rfl ?_ | refine pB rfl rfl rfl rfl rfl rfl ?_
  iterate 2 refine pE rfl ?_
  refine WO.nil (qs ?_)
  refine condK rfl (fun h17 => ?_) (fun h17 => ?_)
  ·
   refine W.seq (W.region ?_)
   refine pE rfl ?_
   refine WO.nil (qs (W.ret (qbRet (qsRet (qlRet (qbRet (qsRet ?_)))))))
   refine QF.ret0 trivial rfl ?_
   simp only [norm, oneA]; rw [← hI]; try simp_all
  ·
   refine W.skip (qbN (qs (W.region ?_)))
   iterate 3 refine pE rfl ?_
   refine WO.nil ?_
   refine W.endR [] ⟨k + 1, ?_⟩ ?_ rfl ?_ ⟨rfl, rfl, rfl, rfl, trivial⟩ ?_ trivial rfl
   · exact ⟨hlt, by rw [← hI]; simp_all⟩
   · dsimp only; omega
   · repeat' first | exact trivial | refine ⟨rfl, ?_⟩ | refine ⟨congrArg some (renL_boxE _ _ _), ?_⟩ | refine ⟨step_nat (by assumption) (by assumption), ?_⟩
   · repeat' first | exact trivial | refine ⟨rfl, ?_⟩ | refine ⟨congrArg some (renL_boxE _ _ _), ?_⟩ | refine ⟨step_nat (by assumption) (by assumption), ?_⟩
 ·
  rw [hd, List.any_nil] at hI
  refine W.exit (qsExit (qlExit (qbExit (qs (W.seq (W.region ?_))))))
  refine pE rfl ?_
  refine WO.nil (qs (W.ret ?_))
  refine QF.ret0 trivial rfl ?_
  simp only [norm, oneA]; rw [← hI]; try simp_all
theorem node_lo (j : JV) (ho : 1 ≤ j.op ∧ j.op ≤ 6) : nodeJ j 0 = if (j.n ≠ 0 ∧ j.op ≠ 2 ∧ j.op ≠ 3) ∨ (j.s ≠ B #[] ∧ j.op ≠ 4) ∨ (0 < j.kids.length ∧ j.op ≠ 5 ∧ j.op ≠ 6) then 1
  else if (0 < j.keys.length ∧ j.op ≠ 6) ∨ (j.op = 6 ∧ j.keys.length ≠ j.kids.length) then 1
  else if (j.op = 2 ∧ j.n ≠ 0 ∧ j.n ≠ 1) ∨ (j.op = 3 ∧ inR j.n = false) then 2 else if plainB j.s = false then 10 else if (j.keys.any fun s => !plainB s) = true then 10 else if rept [] j.keys = true then 4 else 0 := by
 have ho' : j.op = 1 ∨ j.op = 2 ∨ j.op = 3 ∨ j.op = 4 ∨ j.op = 5 ∨ j.op = 6 := by omega
 unfold nodeJ fieldsJ
 clear ho
 generalize j.op = o at *
 generalize j.keys.length = a
 generalize j.kids.length = b
 by_cases hs : j.s = B #[] <;> by_cases hn : j.n = 0 <;> by_cases ha : a = 0 <;> by_cases hb : b = 0 <;> by_cases hc : a = b <;> rcases ho' with rfl | rfl | rfl | rfl | rfl | rfl <;> simp [hs, hn, ha, hb, hc, Nat.pos_iff_ne_zero] <;> grind
theorem bj {a b : Int} (h : a = b) : A.d (D.v (Value.int .i64 a)) = A.d (D.v (Value.int .i64 b)) := by rw [h]
theorem rfields_hi (j : JV) (ho : ¬ (1 ≤ j.op ∧ j.op ≤ 6)) : Does Tryd.prog 49 [.ag j.c] (.d (.v (.int .i64 (nodeJ j 0)))) 0 := by
 rw [jc_map j]
 refine Does.of_W (n := 135) (ts := [2]) Tryd.func49 (by kernel_rfl) rfl Tryd.ntmps49 Tryd.results49 rfl rfl fun C hC hG => ?_
 refine W.seq (W.region ?_)
 refine boxR rfl rfl rfl ?_
 refine pE rfl ?_
 refine WO.nil (qs ?_)
 iterate 2 refine W.seq ?_
 refine W.region ?_
 refine pE rfl ?_
 first | refine pE rfl ?_ | refine pR rfl rfl rfl rfl rfl ?_ | refine pB rfl rfl rfl rfl rfl rfl ?_
 refine WO.nil (qs (W.block ?_))
 iterate 2 refine W.seq ?_
 refine W.region ?_
 iterate 2 refine pE rfl ?_
 refine WO.nil (qs ?_)
 refine condK rfl (fun h7 => ?_) (fun h7 => ?_)
 ·
  exfalso; simp at h7; omega
 ·
  refine W.seq (W.region ?_)
  iterate 2 refine pE rfl ?_
  refine WO.nil (qs ?_)
  refine condK rfl (fun h7 => ?_) (fun h7 => ?_)
  ·
   exfalso; simp at h7; omega
  ·
   refine W.seq (W.region ?_)
   iterate 2 refine pE rfl ?_
   refine WO.nil (qs ?_)
   refine condK rfl (fun h7 => ?_) (fun h7 => ?_)
   ·
    exfalso; simp at h7; omega
   ·
    refine W.seq (W.region ?_)
    iterate 2 refine pE rfl ?_
    refine WO.nil (qs ?_)
    refine condK rfl (fun h7 => ?_) (fun h7 => ?_)
    ·
     exfalso; simp at h7; omega
    ·
     refine W.seq (W.region ?_)
     iterate 2 refine pE rfl ?_
     refine WO.nil (qs ?_)
     refine condK rfl (fun h7 => ?_) (fun h7 => ?_)
     ·
      exfalso; simp at h7; omega
     ·
      refine W.region ?_
      iterate 2 refine pE rfl ?_
      refine WO.nil (qs ?_)
      refine condK rfl (fun h7 => ?_) (fun h7 => ?_)
      ·
       exfalso; simp at h7; omega
      ·
       refine W.seq (W.region ?_)
       refine pE rfl ?_
       refine WO.nil (qs (W.ret (qbRet (qsRet ?_))))
       refine QF.ret0 trivial rfl ?_
       refine bj ?_; unfold nodeJ fieldsJ; grind
theorem rfields_lo (j : JV) (ho : 1 ≤ j.op ∧ j.op ≤ 6) : Does Tryd.prog 49 [.ag j.c] (.d (.v (.int .i64 (nodeJ j 0)))) 0 := by
 rw [jc_map j]
 refine Does.of_W (n := 135) (ts := [2]) Tryd.func49 (by kernel_rfl) rfl Tryd.ntmps49 Tryd.results49 rfl rfl fun C hC hG => ?_
 refine W.seq (W.region ?_)
 refine boxR rfl rfl rfl ?_
 refine pE rfl ?_
 refine WO.nil (qs ?_)
 iterate 2 refine W.seq ?_
 refine W.region ?_
 refine pE rfl ?_
 first | refine pE rfl ?_ | refine pR rfl rfl rfl rfl rfl ?_ | refine pB rfl rfl rfl rfl rfl rfl ?_
 refine WO.nil (qs ?_)
 refine W.cutS [(1, .ptr 0 0)] [] [(0, [.d (ci j.op), .d (ci j.n), .d (cs j.s), .d (.sl (j.keys.map sc)), .d (.sl (j.kids.map JV.c))])] [] [] 1 ?_ ?_
 ·
  refine W.block ?_
  iterate 2 refine W.seq ?_
  refine W.region ?_
  iterate 2 refine pE rfl ?_
  refine WO.nil (qs ?_)
  refine condK rfl (fun h7 => ?_) (fun h7 => ?_)
  ·
   refine W.skip (qs ?_)
   refine W.condT rfl ?_
   refine W.skip (qbN ?_)
   refine cutEnd [0] rfl ?_ trivial ?_ trivial rfl
   · repeat' first | exact trivial | refine ⟨rfl, ?_⟩ | refine ⟨congrArg some (renL_boxE _ _ _), ?_⟩ | refine ⟨step_nat (by assumption) (by assumption), ?_⟩
   · repeat' first | exact trivial | refine ⟨rfl, ?_⟩ | refine ⟨congrArg some (renL_boxE _ _ _), ?_⟩ | refine ⟨step_nat (by assumption) (by assumption), ?_⟩
  ·
   refine W.seq (W.region ?_)
   iterate 2 refine pE rfl ?_
   refine WO.nil (qs ?_)
   refine condK rfl (fun h7 => ?_) (fun h7 => ?_)
   ·
    refine W.skip (qs ?_)
    refine W.condT rfl ?_
    refine W.skip (qbN ?_)
    refine cutEnd [0] rfl ?_ trivial ?_ trivial rfl
    · repeat' first | exact trivial | refine ⟨rfl, ?_⟩ | refine ⟨congrArg some (renL_boxE _ _ _), ?_⟩ | refine ⟨step_nat (by assumption) (by assumption), ?_⟩
    · repeat' first | exact trivial | refine ⟨rfl, ?_⟩ | refine ⟨congrArg some (renL_boxE _ _ _), ?_⟩ | refine ⟨step_nat (by assumption) (by assumption), ?_⟩
   ·
    refine W.seq (W.region ?_)
    iterate 2 refine pE rfl ?_
    refine WO.nil (qs ?_)
    refine condK rfl (fun h7 => ?_) (fun h7 => ?_)
    ·
     refine W.skip (qs ?_)
     refine W.condT rfl ?_
     refine W.skip (qbN ?_)
     refine cutEnd [0] rfl ?_ trivial ?_ trivial rfl
     · repeat' first | exact trivial | refine ⟨rfl, ?_⟩ | refine ⟨congrArg some (renL_boxE _ _ _), ?_⟩ | refine ⟨step_nat (by assumption) (by assumption), ?_⟩
     · repeat' first | exact trivial | refine ⟨rfl, ?_⟩ | refine ⟨congrArg some (renL_boxE _ _ _), ?_⟩ | refine ⟨step_nat (by assumption) (by assumption), ?_⟩
    ·
     refine W.seq (W.region ?_)
     iterate 2 refine pE rfl ?_
     refine WO.nil (qs ?_)
     refine condK rfl (fun h7 => ?_) (fun h7 => ?_)
     ·
      refine W.skip (qs ?_)
      refine W.condT rfl ?_
      refine W.skip (qbN ?_)
      refine cutEnd [0] rfl ?_ trivial ?_ trivial rfl
      · repeat' first | exact trivial | refine ⟨rfl, ?_⟩ | refine ⟨congrArg some (renL_boxE _ _ _), ?_⟩ | refine ⟨step_nat (by assumption) (by assumption), ?_⟩
      · repeat' first | exact trivial | refine ⟨rfl, ?_⟩ | refine ⟨congrArg some (renL_boxE _ _ _), ?_⟩ | refine ⟨step_nat (by assumption) (by assumption), ?_⟩
     ·
      refine W.seq (W.region ?_)
      iterate 2 refine pE rfl ?_
      refine WO.nil (qs ?_)
      refine condK rfl (fun h7 => ?_) (fun h7 => ?_)
      ·
       refine W.skip (qs ?_)
       refine W.condT rfl ?_
       refine W.skip (qbN ?_)
       refine cutEnd [0] rfl ?_ trivial ?_ trivial rfl
       · repeat' first | exact trivial | refine ⟨rfl, ?_⟩ | refine ⟨congrArg some (renL_boxE _ _ _), ?_⟩ | refine ⟨step_nat (by assumption) (by assumption), ?_⟩
       · repeat' first | exact trivial | refine ⟨rfl, ?_⟩ | refine ⟨congrArg some (renL_boxE _ _ _), ?_⟩ | refine ⟨step_nat (by assumption) (by assumption), ?_⟩
      ·
       refine W.region ?_
       iterate 2 refine pE rfl ?_
       refine WO.nil (qs ?_)
       refine condK rfl (fun h7 => ?_) (fun h7 => ?_)
       ·
        refine W.skip (qbN ?_)
        refine cutEnd [0] rfl ?_ trivial ?_ trivial rfl
        · repeat' first | exact trivial | refine ⟨rfl, ?_⟩ | refine ⟨congrArg some (renL_boxE _ _ _), ?_⟩ | refine ⟨step_nat (by assumption) (by assumption), ?_⟩
        · repeat' first | exact trivial | refine ⟨rfl, ?_⟩ | refine ⟨congrArg some (renL_boxE _ _ _), ?_⟩ | refine ⟨step_nat (by assumption) (by assumption), ?_⟩
       ·
        refine W.seq (W.region ?_)
        refine pE rfl ?_
        refine WO.nil (qs (W.ret (qbRet ?_)))
        refine qcRet ?_
        refine qsRet ?_
        refine QF.ret0 trivial rfl ?_
        refine bj ?_; first | (rw [node_lo j ho]; (repeat (first | rw [if_pos (by assumption)] | rw [if_neg (by assumption)])); done) | (exfalso; simp only [decide_eq_false_iff_not] at *; omega)
 refine qs ?_
 iterate 2 refine W.seq ?_
 apply regionB; (case hb => rfl)
 ·
  refine pE rfl ?_
  first | refine pE rfl ?_ | refine pR rfl rfl rfl rfl rfl ?_ | refine pB rfl rfl rfl rfl rfl rfl ?_
  iterate 2 refine pE rfl ?_
  apply splitJ; (case hj => rfl); (case hl => rfl)
  ·
   refine goG rfl rfl ?_
   refine pE rfl ?_
   refine goG rfl rfl ?_
   first | refine pE rfl ?_ | refine pR rfl rfl rfl rfl rfl ?_ | refine pB rfl rfl rfl rfl rfl rfl ?_
   refine goG rfl rfl ?_
   iterate 3 refine pE rfl ?_
   apply splitJ; (case hj => rfl); (case hl => rfl)
   ·
    refine goG rfl rfl ?_
    refine pE rfl ?_
    refine goG rfl rfl ?_
    first | refine pE rfl ?_ | refine pR rfl rfl rfl rfl rfl ?_ | refine pB rfl rfl rfl rfl rfl rfl ?_
    refine goG rfl rfl ?_
    iterate 3 refine pE rfl ?_
    apply splitJ; (case hj => rfl); (case hl => rfl)
    ·
     iterate 4 refine skipT rfl rfl rfl rfl ?_
     iterate 3 refine skipU rfl rfl rfl ?_
     refine skipT rfl rfl rfl rfl ?_
     iterate 2 refine pE rfl ?_
     iterate 5 refine skipT rfl rfl rfl rfl ?_
     iterate 3 refine skipU rfl rfl rfl ?_
     iterate 2 refine skipT rfl rfl rfl rfl ?_
     iterate 3 refine skipU rfl rfl rfl ?_
     refine skipT rfl rfl rfl rfl ?_
     refine pE rfl ?_
     refine WO.nil ?_
     refine qv1 rfl rfl rfl
    ·
     refine goG rfl rfl ?_
     refine pE rfl ?_
     refine goG rfl rfl ?_
     first | refine pE rfl ?_ | refine pR rfl rfl rfl rfl rfl ?_ | refine pB rfl rfl rfl rfl rfl rfl ?_
     refine goG rfl rfl ?_
     refine pE rfl ?_
     refine goG rfl rfl ?_
     refine pE rfl ?_
     apply splitJ; (case hj => rfl); (case hl => rfl)
     ·
      refine goG rfl rfl ?_
      refine pE rfl ?_
      refine goG rfl rfl ?_
      first | refine pE rfl ?_ | refine pR rfl rfl rfl rfl rfl ?_ | refine pB rfl rfl rfl rfl rfl rfl ?_
      refine goG rfl rfl ?_
      refine pE rfl ?_
      refine goG rfl rfl ?_
      iterate 3 refine pE rfl ?_
      apply splitJ; (case hj => rfl); (case hl => rfl)
      ·
       iterate 5 refine skipT rfl rfl rfl rfl ?_
       iterate 3 refine skipU rfl rfl rfl ?_
       iterate 2 refine skipT rfl rfl rfl rfl ?_
       iterate 3 refine skipU rfl rfl rfl ?_
       refine skipT rfl rfl rfl rfl ?_
       refine pE rfl ?_
       refine WO.nil ?_
       refine qv1 rfl rfl rfl
      ·
       refine goG rfl rfl ?_
       refine pE rfl ?_
       refine goG rfl rfl ?_
       first | refine pE rfl ?_ | refine pR rfl rfl rfl rfl rfl ?_ | refine pB rfl rfl rfl rfl rfl rfl ?_
       refine goG rfl rfl ?_
       refine pE rfl ?_
       refine goG rfl rfl ?_
       refine pE rfl ?_
       refine goG rfl rfl ?_
       refine pE rfl ?_
       apply splitJ; (case hj => rfl); (case hl => rfl)
       ·
        refine goG rfl rfl ?_
        refine pE rfl ?_
        refine goG rfl rfl ?_
        first | refine pE rfl ?_ | refine pR rfl rfl rfl rfl rfl ?_ | refine pB rfl rfl rfl rfl rfl rfl ?_
        refine goG rfl rfl ?_
        refine pE rfl ?_
        refine goG rfl rfl ?_
        refine pE rfl ?_
        refine goG rfl rfl ?_
        refine pE rfl ?_
        apply splitJ; (case hj => rfl); (case hl => rfl)
        ·
         refine goG rfl rfl ?_
         refine pE rfl ?_
         refine goG rfl rfl ?_
         first | refine pE rfl ?_ | refine pR rfl rfl rfl rfl rfl ?_ | refine pB rfl rfl rfl rfl rfl rfl ?_
         refine goG rfl rfl ?_
         refine pE rfl ?_
         refine goG rfl rfl ?_
         iterate 2 refine pE rfl ?_
         refine WO.nil ?_
         refine qv1 rfl rfl rfl
        ·
         iterate 3 refine skipT rfl rfl rfl rfl ?_
         refine goG rfl rfl ?_
         iterate 2 refine pE rfl ?_
         refine WO.nil ?_
         refine qv1 rfl rfl rfl
       ·
        iterate 3 refine skipT rfl rfl rfl rfl ?_
        refine goG rfl rfl ?_
        refine pE rfl ?_
        refine goG rfl rfl ?_
        refine pE rfl ?_
        iterate 3 refine skipT rfl rfl rfl rfl ?_
        refine goG rfl rfl ?_
        iterate 2 refine pE rfl ?_
        refine WO.nil ?_
        refine qv1 rfl rfl rfl
     ·
      iterate 3 refine skipT rfl rfl rfl rfl ?_
      refine goG rfl rfl ?_
      iterate 3 refine pE rfl ?_
      refine goG rfl rfl ?_
      refine pE rfl ?_
      refine goG rfl rfl ?_
      first | refine pE rfl ?_ | refine pR rfl rfl rfl rfl rfl ?_ | refine pB rfl rfl rfl rfl rfl rfl ?_
      refine goG rfl rfl ?_
      refine pE rfl ?_
      refine goG rfl rfl ?_
      refine pE rfl ?_
      refine goG rfl rfl ?_
      refine pE rfl ?_
      apply splitJ; (case hj => rfl); (case hl => rfl)
      ·
       refine goG rfl rfl ?_
       refine pE rfl ?_
       refine goG rfl rfl ?_
       first | refine pE rfl ?_ | refine pR rfl rfl rfl rfl rfl ?_ | refine pB rfl rfl rfl rfl rfl rfl ?_
       refine goG rfl rfl ?_
       refine pE rfl ?_
       refine goG rfl rfl ?_
       refine pE rfl ?_
       refine goG rfl rfl ?_
       refine pE rfl ?_
       apply splitJ; (case hj => rfl); (case hl => rfl)
       ·
        refine goG rfl rfl ?_
        refine pE rfl ?_
        refine goG rfl rfl ?_
        first | refine pE rfl ?_ | refine pR rfl rfl rfl rfl rfl ?_ | refine pB rfl rfl rfl rfl rfl rfl ?_
        refine goG rfl rfl ?_
        refine pE rfl ?_
        refine goG rfl rfl ?_
        iterate 2 refine pE rfl ?_
        refine WO.nil ?_
        refine qv1 rfl rfl rfl
       ·
        iterate 3 refine skipT rfl rfl rfl rfl ?_
        refine goG rfl rfl ?_
        iterate 2 refine pE rfl ?_
        refine WO.nil ?_
        refine qv1 rfl rfl rfl
      ·
       iterate 3 refine skipT rfl rfl rfl rfl ?_
       refine goG rfl rfl ?_
       refine pE rfl ?_
       refine goG rfl rfl ?_
       refine pE rfl ?_
       iterate 3 refine skipT rfl rfl rfl rfl ?_
       refine goG rfl rfl ?_
       iterate 2 refine pE rfl ?_
       refine WO.nil ?_
       refine qv1 rfl rfl rfl
   ·
    iterate 3 refine skipT rfl rfl rfl rfl ?_
    iterate 2 refine pE rfl ?_
    refine goG rfl rfl ?_
    refine pE rfl ?_
    refine goG rfl rfl ?_
    first | refine pE rfl ?_ | refine pR rfl rfl rfl rfl rfl ?_ | refine pB rfl rfl rfl rfl rfl rfl ?_
    refine goG rfl rfl ?_
    refine pE rfl ?_
    refine goG rfl rfl ?_
    refine pE rfl ?_
    apply splitJ; (case hj => rfl); (case hl => rfl)
    ·
     refine goG rfl rfl ?_
     refine pE rfl ?_
     refine goG rfl rfl ?_
     first | refine pE rfl ?_ | refine pR rfl rfl rfl rfl rfl ?_ | refine pB rfl rfl rfl rfl rfl rfl ?_
     refine goG rfl rfl ?_
     refine pE rfl ?_
     refine goG rfl rfl ?_
     iterate 3 refine pE rfl ?_
     apply splitJ; (case hj => rfl); (case hl => rfl)
     ·
      iterate 5 refine skipT rfl rfl rfl rfl ?_
      iterate 3 refine skipU rfl rfl rfl ?_
      iterate 2 refine skipT rfl rfl rfl rfl ?_
      iterate 3 refine skipU rfl rfl rfl ?_
      refine skipT rfl rfl rfl rfl ?_
      refine pE rfl ?_
      refine WO.nil ?_
      refine qv1 rfl rfl rfl
     ·
      refine goG rfl rfl ?_
      refine pE rfl ?_
      refine goG rfl rfl ?_
      first | refine pE rfl ?_ | refine pR rfl rfl rfl rfl rfl ?_ | refine pB rfl rfl rfl rfl rfl rfl ?_
      refine goG rfl rfl ?_
      refine pE rfl ?_
      refine goG rfl rfl ?_
      refine pE rfl ?_
      refine goG rfl rfl ?_
      refine pE rfl ?_
      apply splitJ; (case hj => rfl); (case hl => rfl)
      ·
       refine goG rfl rfl ?_
       refine pE rfl ?_
       refine goG rfl rfl ?_
       first | refine pE rfl ?_ | refine pR rfl rfl rfl rfl rfl ?_ | refine pB rfl rfl rfl rfl rfl rfl ?_
       refine goG rfl rfl ?_
       refine pE rfl ?_
       refine goG rfl rfl ?_
       refine pE rfl ?_
       refine goG rfl rfl ?_
       refine pE rfl ?_
       apply splitJ; (case hj => rfl); (case hl => rfl)
       ·
        refine goG rfl rfl ?_
        refine pE rfl ?_
        refine goG rfl rfl ?_
        first | refine pE rfl ?_ | refine pR rfl rfl rfl rfl rfl ?_ | refine pB rfl rfl rfl rfl rfl rfl ?_
        refine goG rfl rfl ?_
        refine pE rfl ?_
        refine goG rfl rfl ?_
        iterate 2 refine pE rfl ?_
        refine WO.nil ?_
        refine qv1 rfl rfl rfl
       ·
        iterate 3 refine skipT rfl rfl rfl rfl ?_
        refine goG rfl rfl ?_
        iterate 2 refine pE rfl ?_
        refine WO.nil ?_
        refine qv1 rfl rfl rfl
      ·
       iterate 3 refine skipT rfl rfl rfl rfl ?_
       refine goG rfl rfl ?_
       refine pE rfl ?_
       refine goG rfl rfl ?_
       refine pE rfl ?_
       iterate 3 refine skipT rfl rfl rfl rfl ?_
       refine goG rfl rfl ?_
       iterate 2 refine pE rfl ?_
       refine WO.nil ?_
       refine qv1 rfl rfl rfl
    ·
     iterate 3 refine skipT rfl rfl rfl rfl ?_
     refine goG rfl rfl ?_
     iterate 3 refine pE rfl ?_
     refine goG rfl rfl ?_
     refine pE rfl ?_
     refine goG rfl rfl ?_
     first | refine pE rfl ?_ | refine pR rfl rfl rfl rfl rfl ?_ | refine pB rfl rfl rfl rfl rfl rfl ?_
     refine goG rfl rfl ?_
     refine pE rfl ?_
     refine goG rfl rfl ?_
     refine pE rfl ?_
     refine goG rfl rfl ?_
     refine pE rfl ?_
     apply splitJ; (case hj => rfl); (case hl => rfl)
     ·
      refine goG rfl rfl ?_
      refine pE rfl ?_
      refine goG rfl rfl ?_
      first | refine pE rfl ?_ | refine pR rfl rfl rfl rfl rfl ?_ | refine pB rfl rfl rfl rfl rfl rfl ?_
      refine goG rfl rfl ?_
      refine pE rfl ?_
      refine goG rfl rfl ?_
      refine pE rfl ?_
      refine goG rfl rfl ?_
      refine pE rfl ?_
      apply splitJ; (case hj => rfl); (case hl => rfl)
      ·
       refine goG rfl rfl ?_
       refine pE rfl ?_
       refine goG rfl rfl ?_
       first | refine pE rfl ?_ | refine pR rfl rfl rfl rfl rfl ?_ | refine pB rfl rfl rfl rfl rfl rfl ?_
       refine goG rfl rfl ?_
       refine pE rfl ?_
       refine goG rfl rfl ?_
       iterate 2 refine pE rfl ?_
       refine WO.nil ?_
       refine qv1 rfl rfl rfl
      ·
       iterate 3 refine skipT rfl rfl rfl rfl ?_
       refine goG rfl rfl ?_
       iterate 2 refine pE rfl ?_
       refine WO.nil ?_
       refine qv1 rfl rfl rfl
     ·
      iterate 3 refine skipT rfl rfl rfl rfl ?_
      refine goG rfl rfl ?_
      refine pE rfl ?_
      refine goG rfl rfl ?_
      refine pE rfl ?_
      iterate 3 refine skipT rfl rfl rfl rfl ?_
      refine goG rfl rfl ?_
      iterate 2 refine pE rfl ?_
      refine WO.nil ?_
      refine qv1 rfl rfl rfl
  ·
   iterate 3 refine skipT rfl rfl rfl rfl ?_
   iterate 2 refine pE rfl ?_
   iterate 3 refine skipT rfl rfl rfl rfl ?_
   iterate 2 refine pE rfl ?_
   refine goG rfl rfl ?_
   refine pE rfl ?_
   refine goG rfl rfl ?_
   first | refine pE rfl ?_ | refine pR rfl rfl rfl rfl rfl ?_ | refine pB rfl rfl rfl rfl rfl rfl ?_
   refine goG rfl rfl ?_
   refine pE rfl ?_
   refine goG rfl rfl ?_
   refine pE rfl ?_
   apply splitJ; (case hj => rfl); (case hl => rfl)
   ·
    refine goG rfl rfl ?_
    refine pE rfl ?_
    refine goG rfl rfl ?_
    first | refine pE rfl ?_ | refine pR rfl rfl rfl rfl rfl ?_ | refine pB rfl rfl rfl rfl rfl rfl ?_
    refine goG rfl rfl ?_
    refine pE rfl ?_
    refine goG rfl rfl ?_
    iterate 3 refine pE rfl ?_
    apply splitJ; (case hj => rfl); (case hl => rfl)
    ·
     iterate 5 refine skipT rfl rfl rfl rfl ?_
     iterate 3 refine skipU rfl rfl rfl ?_
     iterate 2 refine skipT rfl rfl rfl rfl ?_
     iterate 3 refine skipU rfl rfl rfl ?_
     refine skipT rfl rfl rfl rfl ?_
     refine pE rfl ?_
     refine WO.nil ?_
     refine qv1 rfl rfl rfl
    ·
     refine goG rfl rfl ?_
     refine pE rfl ?_
     refine goG rfl rfl ?_
     first | refine pE rfl ?_ | refine pR rfl rfl rfl rfl rfl ?_ | refine pB rfl rfl rfl rfl rfl rfl ?_
     refine goG rfl rfl ?_
     refine pE rfl ?_
     refine goG rfl rfl ?_
     refine pE rfl ?_
     refine goG rfl rfl ?_
     refine pE rfl ?_
     apply splitJ; (case hj => rfl); (case hl => rfl)
     ·
      refine goG rfl rfl ?_
      refine pE rfl ?_
      refine goG rfl rfl ?_
      first | refine pE rfl ?_ | refine pR rfl rfl rfl rfl rfl ?_ | refine pB rfl rfl rfl rfl rfl rfl ?_
      refine goG rfl rfl ?_
      refine pE rfl ?_
      refine goG rfl rfl ?_
      refine pE rfl ?_
      refine goG rfl rfl ?_
      refine pE rfl ?_
      apply splitJ; (case hj => rfl); (case hl => rfl)
      ·
       refine goG rfl rfl ?_
       refine pE rfl ?_
       refine goG rfl rfl ?_
       first | refine pE rfl ?_ | refine pR rfl rfl rfl rfl rfl ?_ | refine pB rfl rfl rfl rfl rfl rfl ?_
       refine goG rfl rfl ?_
       refine pE rfl ?_
       refine goG rfl rfl ?_
       iterate 2 refine pE rfl ?_
       refine WO.nil ?_
       refine qv1 rfl rfl rfl
      ·
       iterate 3 refine skipT rfl rfl rfl rfl ?_
       refine goG rfl rfl ?_
       iterate 2 refine pE rfl ?_
       refine WO.nil ?_
       refine qv1 rfl rfl rfl
     ·
      iterate 3 refine skipT rfl rfl rfl rfl ?_
      refine goG rfl rfl ?_
      refine pE rfl ?_
      refine goG rfl rfl ?_
      refine pE rfl ?_
      iterate 3 refine skipT rfl rfl rfl rfl ?_
      refine goG rfl rfl ?_
      iterate 2 refine pE rfl ?_
      refine WO.nil ?_
      refine qv1 rfl rfl rfl
   ·
    iterate 3 refine skipT rfl rfl rfl rfl ?_
    refine goG rfl rfl ?_
    iterate 3 refine pE rfl ?_
    refine goG rfl rfl ?_
    refine pE rfl ?_
    refine goG rfl rfl ?_
    first | refine pE rfl ?_ | refine pR rfl rfl rfl rfl rfl ?_ | refine pB rfl rfl rfl rfl rfl rfl ?_
    refine goG rfl rfl ?_
    refine pE rfl ?_
    refine goG rfl rfl ?_
    refine pE rfl ?_
    refine goG rfl rfl ?_
    refine pE rfl ?_
    apply splitJ; (case hj => rfl); (case hl => rfl)
    ·
     refine goG rfl rfl ?_
     refine pE rfl ?_
     refine goG rfl rfl ?_
     first | refine pE rfl ?_ | refine pR rfl rfl rfl rfl rfl ?_ | refine pB rfl rfl rfl rfl rfl rfl ?_
     refine goG rfl rfl ?_
     refine pE rfl ?_
     refine goG rfl rfl ?_
     refine pE rfl ?_
     refine goG rfl rfl ?_
     refine pE rfl ?_
     apply splitJ; (case hj => rfl); (case hl => rfl)
     ·
      refine goG rfl rfl ?_
      refine pE rfl ?_
      refine goG rfl rfl ?_
      first | refine pE rfl ?_ | refine pR rfl rfl rfl rfl rfl ?_ | refine pB rfl rfl rfl rfl rfl rfl ?_
      refine goG rfl rfl ?_
      refine pE rfl ?_
      refine goG rfl rfl ?_
      iterate 2 refine pE rfl ?_
      refine WO.nil ?_
      refine qv1 rfl rfl rfl
     ·
      iterate 3 refine skipT rfl rfl rfl rfl ?_
      refine goG rfl rfl ?_
      iterate 2 refine pE rfl ?_
      refine WO.nil ?_
      refine qv1 rfl rfl rfl
    ·
     iterate 3 refine skipT rfl rfl rfl rfl ?_
     refine goG rfl rfl ?_
     refine pE rfl ?_
     refine goG rfl rfl ?_
     refine pE rfl ?_
     iterate 3 refine skipT rfl rfl rfl rfl ?_
     refine goG rfl rfl ?_
     iterate 2 refine pE rfl ?_
     refine WO.nil ?_
     refine qv1 rfl rfl rfl
 refine qs ?_
 refine condK rfl (fun h52 => ?_) (fun h52 => ?_)
 ·
  have q52 : (j.n ≠ 0 ∧ j.op ≠ 2 ∧ j.op ≠ 3) ∨ (j.s ≠ B #[] ∧ j.op ≠ 4) ∨ (0 < j.kids.length ∧ j.op ≠ 5 ∧ j.op ≠ 6) := by rw [List.length_map] at h52; grind
  refine W.seq (W.region ?_)
  refine pE rfl ?_
  refine WO.nil (qs (W.ret (qsRet ?_)))
  refine QF.ret0 trivial rfl ?_
  refine bj ?_; first | (rw [node_lo j ho]; (repeat (first | rw [if_pos (by assumption)] | rw [if_neg (by assumption)])); done) | (exfalso; simp only [decide_eq_false_iff_not] at *; omega)
 ·
  have q52 : ¬ ((j.n ≠ 0 ∧ j.op ≠ 2 ∧ j.op ≠ 3) ∨ (j.s ≠ B #[] ∧ j.op ≠ 4) ∨ (0 < j.kids.length ∧ j.op ≠ 5 ∧ j.op ≠ 6)) := by rw [List.length_map] at h52; grind
  clear h52
  refine W.skip (qs ?_)
  iterate 2 refine W.seq ?_
  apply regionB; (case hb => rfl)
  ·
   refine pE rfl ?_
   first | refine pE rfl ?_ | refine pR rfl rfl rfl rfl rfl ?_ | refine pB rfl rfl rfl rfl rfl rfl ?_
   iterate 3 refine pE rfl ?_
   apply splitJ; (case hj => rfl); (case hl => rfl)
   ·
    refine goG rfl rfl ?_
    refine pE rfl ?_
    refine goG rfl rfl ?_
    first | refine pE rfl ?_ | refine pR rfl rfl rfl rfl rfl ?_ | refine pB rfl rfl rfl rfl rfl rfl ?_
    refine goG rfl rfl ?_
    iterate 3 refine pE rfl ?_
    apply splitJ; (case hj => rfl); (case hl => rfl)
    ·
     iterate 4 refine skipT rfl rfl rfl rfl ?_
     iterate 7 refine skipU rfl rfl rfl ?_
     refine skipT rfl rfl rfl rfl ?_
     refine pE rfl ?_
     refine WO.nil ?_
     refine qv1 rfl rfl rfl
    ·
     refine goG rfl rfl ?_
     refine pE rfl ?_
     refine goG rfl rfl ?_
     first | refine pE rfl ?_ | refine pR rfl rfl rfl rfl rfl ?_ | refine pB rfl rfl rfl rfl rfl rfl ?_
     refine goG rfl rfl ?_
     refine pE rfl ?_
     refine goG rfl rfl ?_
     refine pE rfl ?_
     apply splitJ; (case hj => rfl); (case hl => rfl)
     ·
      refine goG rfl rfl ?_
      refine pE rfl ?_
      refine goG rfl rfl ?_
      first | refine pE rfl ?_ | refine pR rfl rfl rfl rfl rfl ?_ | refine pB rfl rfl rfl rfl rfl rfl ?_
      refine goG rfl rfl ?_
      refine pE rfl ?_
      refine goG rfl rfl ?_
      refine pE rfl ?_
      refine goG rfl rfl ?_
      first | refine pE rfl ?_ | refine pR rfl rfl rfl rfl rfl ?_ | refine pB rfl rfl rfl rfl rfl rfl ?_
      refine goG rfl rfl ?_
      refine pE rfl ?_
      refine goG rfl rfl ?_
      refine pE rfl ?_
      refine goG rfl rfl ?_
      iterate 2 refine pE rfl ?_
      refine WO.nil ?_
      refine qv1 rfl rfl rfl
     ·
      iterate 7 refine skipT rfl rfl rfl rfl ?_
      refine goG rfl rfl ?_
      iterate 2 refine pE rfl ?_
      refine WO.nil ?_
      refine qv1 rfl rfl rfl
   ·
    iterate 3 refine skipT rfl rfl rfl rfl ?_
    iterate 2 refine pE rfl ?_
    refine goG rfl rfl ?_
    refine pE rfl ?_
    refine goG rfl rfl ?_
    first | refine pE rfl ?_ | refine pR rfl rfl rfl rfl rfl ?_ | refine pB rfl rfl rfl rfl rfl rfl ?_
    refine goG rfl rfl ?_
    refine pE rfl ?_
    refine goG rfl rfl ?_
    refine pE rfl ?_
    apply splitJ; (case hj => rfl); (case hl => rfl)
    ·
     refine goG rfl rfl ?_
     refine pE rfl ?_
     refine goG rfl rfl ?_
     first | refine pE rfl ?_ | refine pR rfl rfl rfl rfl rfl ?_ | refine pB rfl rfl rfl rfl rfl rfl ?_
     refine goG rfl rfl ?_
     refine pE rfl ?_
     refine goG rfl rfl ?_
     refine pE rfl ?_
     refine goG rfl rfl ?_
     first | refine pE rfl ?_ | refine pR rfl rfl rfl rfl rfl ?_ | refine pB rfl rfl rfl rfl rfl rfl ?_
     refine goG rfl rfl ?_
     refine pE rfl ?_
     refine goG rfl rfl ?_
     refine pE rfl ?_
     refine goG rfl rfl ?_
     iterate 2 refine pE rfl ?_
     refine WO.nil ?_
     refine qv1 rfl rfl rfl
    ·
     iterate 7 refine skipT rfl rfl rfl rfl ?_
     refine goG rfl rfl ?_
     iterate 2 refine pE rfl ?_
     refine WO.nil ?_
     refine qv1 rfl rfl rfl
  refine qs ?_
  refine condK rfl (fun h75 => ?_) (fun h75 => ?_)
  ·
   have q75 : (0 < j.keys.length ∧ j.op ≠ 6) ∨ (j.op = 6 ∧ j.keys.length ≠ j.kids.length) := by simp only [List.length_map] at h75; grind
   refine W.seq (W.region ?_)
   refine pE rfl ?_
   refine WO.nil (qs (W.ret (qsRet ?_)))
   refine QF.ret0 trivial rfl ?_
   refine bj ?_; first | (rw [node_lo j ho]; (repeat (first | rw [if_pos (by assumption)] | rw [if_neg (by assumption)])); done) | (exfalso; simp only [decide_eq_false_iff_not] at *; omega)
  ·
   have q75 : ¬ ((0 < j.keys.length ∧ j.op ≠ 6) ∨ (j.op = 6 ∧ j.keys.length ≠ j.kids.length)) := by simp only [List.length_map] at h75; grind
   clear h75
   refine W.skip (qs ?_)
   iterate 2 refine W.seq ?_
   apply regionB; (case hb => rfl)
   ·
    refine pE rfl ?_
    first | refine pE rfl ?_ | refine pR rfl rfl rfl rfl rfl ?_ | refine pB rfl rfl rfl rfl rfl rfl ?_
    iterate 2 refine pE rfl ?_
    apply splitJ; (case hj => rfl); (case hl => rfl)
    ·
     refine goG rfl rfl ?_
     refine pE rfl ?_
     refine goG rfl rfl ?_
     first | refine pE rfl ?_ | refine pR rfl rfl rfl rfl rfl ?_ | refine pB rfl rfl rfl rfl rfl rfl ?_
     refine goG rfl rfl ?_
     iterate 3 refine pE rfl ?_
     apply splitJ; (case hj => rfl); (case hl => rfl)
     ·
      refine goG rfl rfl ?_
      refine pE rfl ?_
      refine goG rfl rfl ?_
      first | refine pE rfl ?_ | refine pR rfl rfl rfl rfl rfl ?_ | refine pB rfl rfl rfl rfl rfl rfl ?_
      refine goG rfl rfl ?_
      iterate 3 refine pE rfl ?_
      apply splitJ; (case hj => rfl); (case hl => rfl)
      ·
       iterate 4 refine skipT rfl rfl rfl rfl ?_
       iterate 4 refine skipU rfl rfl rfl ?_
       refine skipT rfl rfl rfl rfl ?_
       refine pE rfl ?_
       refine WO.nil ?_
       refine qv1 rfl rfl rfl
      ·
       refine goG rfl rfl ?_
       refine pE rfl ?_
       refine goG rfl rfl ?_
       first | refine pE rfl ?_ | refine pR rfl rfl rfl rfl rfl ?_ | refine pB rfl rfl rfl rfl rfl rfl ?_
       refine goG rfl rfl ?_
       refine pE rfl ?_
       refine goG rfl rfl ?_
       refine pE rfl ?_
       apply splitJ; (case hj => rfl); (case hl => rfl)
       ·
        refine goG rfl rfl ?_
        refine pE rfl ?_
        refine goG rfl rfl ?_
        first | refine pE rfl ?_ | refine pR rfl rfl rfl rfl rfl ?_ | refine pB rfl rfl rfl rfl rfl rfl ?_
        refine goG rfl rfl ?_
        refine pu (puCall rfl rfl rfl (rin_fn ..) rfl) rfl ?_
        refine goG rfl rfl ?_
        refine pE rfl ?_
        refine goG rfl rfl ?_
        iterate 2 refine pE rfl ?_
        refine WO.nil ?_
        refine qv1 rfl rfl rfl
       ·
        iterate 4 refine skipT rfl rfl rfl rfl ?_
        refine goG rfl rfl ?_
        iterate 2 refine pE rfl ?_
        refine WO.nil ?_
        refine qv1 rfl rfl rfl
     ·
      iterate 3 refine skipT rfl rfl rfl rfl ?_
      iterate 2 refine pE rfl ?_
      refine goG rfl rfl ?_
      refine pE rfl ?_
      refine goG rfl rfl ?_
      first | refine pE rfl ?_ | refine pR rfl rfl rfl rfl rfl ?_ | refine pB rfl rfl rfl rfl rfl rfl ?_
      refine goG rfl rfl ?_
      refine pE rfl ?_
      refine goG rfl rfl ?_
      refine pE rfl ?_
      apply splitJ; (case hj => rfl); (case hl => rfl)
      ·
       refine goG rfl rfl ?_
       refine pE rfl ?_
       refine goG rfl rfl ?_
       first | refine pE rfl ?_ | refine pR rfl rfl rfl rfl rfl ?_ | refine pB rfl rfl rfl rfl rfl rfl ?_
       refine goG rfl rfl ?_
       refine pu (puCall rfl rfl rfl (rin_fn ..) rfl) rfl ?_
       refine goG rfl rfl ?_
       refine pE rfl ?_
       refine goG rfl rfl ?_
       iterate 2 refine pE rfl ?_
       refine WO.nil ?_
       refine qv1 rfl rfl rfl
      ·
       iterate 4 refine skipT rfl rfl rfl rfl ?_
       refine goG rfl rfl ?_
       iterate 2 refine pE rfl ?_
       refine WO.nil ?_
       refine qv1 rfl rfl rfl
    ·
     iterate 3 refine skipT rfl rfl rfl rfl ?_
     iterate 2 refine pE rfl ?_
     iterate 3 refine skipT rfl rfl rfl rfl ?_
     iterate 2 refine pE rfl ?_
     refine goG rfl rfl ?_
     refine pE rfl ?_
     refine goG rfl rfl ?_
     first | refine pE rfl ?_ | refine pR rfl rfl rfl rfl rfl ?_ | refine pB rfl rfl rfl rfl rfl rfl ?_
     refine goG rfl rfl ?_
     refine pE rfl ?_
     refine goG rfl rfl ?_
     refine pE rfl ?_
     apply splitJ; (case hj => rfl); (case hl => rfl)
     ·
      refine goG rfl rfl ?_
      refine pE rfl ?_
      refine goG rfl rfl ?_
      first | refine pE rfl ?_ | refine pR rfl rfl rfl rfl rfl ?_ | refine pB rfl rfl rfl rfl rfl rfl ?_
      refine goG rfl rfl ?_
      refine pu (puCall rfl rfl rfl (rin_fn ..) rfl) rfl ?_
      refine goG rfl rfl ?_
      refine pE rfl ?_
      refine goG rfl rfl ?_
      iterate 2 refine pE rfl ?_
      refine WO.nil ?_
      refine qv1 rfl rfl rfl
     ·
      iterate 4 refine skipT rfl rfl rfl rfl ?_
      refine goG rfl rfl ?_
      iterate 2 refine pE rfl ?_
      refine WO.nil ?_
      refine qv1 rfl rfl rfl
   refine qs ?_
   refine condK rfl (fun h99 => ?_) (fun h99 => ?_)
   ·
    have q99 : (j.op = 2 ∧ j.n ≠ 0 ∧ j.n ≠ 1) ∨ (j.op = 3 ∧ inR j.n = false) := by grind
    refine W.seq (W.region ?_)
    refine pE rfl ?_
    refine WO.nil (qs (W.ret (qsRet ?_)))
    refine QF.ret0 trivial rfl ?_
    refine bj ?_; first | (rw [node_lo j ho]; (repeat (first | rw [if_pos (by assumption)] | rw [if_neg (by assumption)])); done) | (exfalso; simp only [decide_eq_false_iff_not] at *; omega)
   ·
    have q99 : ¬ ((j.op = 2 ∧ j.n ≠ 0 ∧ j.n ≠ 1) ∨ (j.op = 3 ∧ inR j.n = false)) := by grind
    clear h99
    refine W.skip (qs ?_)
    iterate 2 refine W.seq ?_
    refine W.region ?_
    refine pE rfl ?_
    first | refine pE rfl ?_ | refine pR rfl rfl rfl rfl rfl ?_ | refine pB rfl rfl rfl rfl rfl rfl ?_
    refine pu (puCall rfl rfl rfl (clean_fn ..) rfl) rfl ?_
    refine pE rfl ?_
    refine WO.nil (qs ?_)
    refine condK rfl (fun h103 => ?_) (fun h103 => ?_)
    ·
     have q103 : plainB j.s = false := by simpa using h103
     refine W.seq (W.region ?_)
     refine pE rfl ?_
     refine WO.nil (qs (W.ret (qsRet ?_)))
     refine QF.ret0 trivial rfl ?_
     refine bj ?_; first | (rw [node_lo j ho]; (repeat (first | rw [if_pos (by assumption)] | rw [if_neg (by assumption)])); done) | (exfalso; simp only [decide_eq_false_iff_not] at *; omega)
    ·
     have q103 : ¬ plainB j.s = false := by simpa using h103
     clear h103
     refine W.skip (qs ?_)
     iterate 2 refine W.seq ?_
     refine W.region ?_
     refine pE rfl ?_
     refine WO.nil (qs (W.block ?_))
     refine lenBox (g := 0) (j := 3) rfl rfl (fun hlen => ?_)
     rw [List.length_map] at hlen
     refine W.loopR (ι := {x : Nat // match x with | k => k ≤ j.keys.length ∧ (j.keys.drop k).any (fun s => !plainB s) = j.keys.any (fun s => !plainB s)})
      (fun x => match x.1 with | k => [(1, .ptr 0 0), (3, .d (.v (.int .i64 ((k : Nat) : Int))))]) []
      (fun x => match x.1 with | k => [(0, [.d (ci j.op), .d (ci j.n), .d (cs j.s), .d (.sl (j.keys.map sc)), .d (.sl (j.kids.map JV.c))])]) [] [] 1 (fun x => match x.1 with | k => j.keys.length - k)
      [0] ⟨0, ?_⟩ rfl ?_ trivial ?_ trivial rfl ?_
     · exact ⟨Nat.zero_le _, by simp⟩
     · repeat' first | exact trivial | refine ⟨rfl, ?_⟩ | refine ⟨congrArg some (renL_boxE _ _ _), ?_⟩ | refine ⟨step_nat (by assumption) (by assumption), ?_⟩
     · repeat' first | exact trivial | refine ⟨rfl, ?_⟩ | refine ⟨congrArg some (renL_boxE _ _ _), ?_⟩ | refine ⟨step_nat (by assumption) (by assumption), ?_⟩
     rintro ⟨k, hk, hI⟩
     show W _ _ _ _ _ ⟨[(1, .ptr 0 0), (3, .d (.v (.int .i64 ((k : Nat) : Int))))], [(0, [.d (ci j.op), .d (ci j.n), .d (cs j.s), .d (.sl (j.keys.map sc)), .d (.sl (j.kids.map JV.c))])], [], 1⟩
     iterate 2 refine W.seq ?_
     refine W.region ?_
     iterate 2 refine pE rfl ?_
     first | refine pE rfl ?_ | refine pR rfl rfl rfl rfl rfl ?_ | refine pB rfl rfl rfl rfl rfl rfl ?_
     iterate 2 refine pE rfl ?_
     refine WO.nil (qs ?_)
     refine eachR (l := j.keys) (k := k) rfl (by simp [Ex.kc_len, bytes_len]) hk (fun x hx hd hlt => ?_) (fun he hd => ?_)
     ·
      rw [hd, List.any_cons] at hI
      refine W.skip (qs (W.seq (W.block (W.seq (W.region ?_)))))
      refine pE rfl ?_
      first | refine pE rfl ?_ | refine pR rfl rfl rfl rfl rfl ?_ | refine pB rfl rfl rfl rfl rfl rfl ?_
      refine pE rfl ?_
      refine pu (indexAddr tab rfl rfl rfl rfl rfl rfl (Int.natCast_nonneg _) (idx_map hx) rfl) rfl ?_
      first | refine pE rfl ?_ | refine pR rfl rfl rfl rfl rfl ?_ | refine pB rfl rfl rfl rfl rfl rfl ?_
      refine pu (puCall rfl rfl rfl (clean_fn ..) rfl) rfl ?_
      refine pE rfl ?_
      refine WO.nil (qs ?_)
      refine condK rfl (fun h117 => ?_) (fun h117 => ?_)
      ·
       have hb : plainB x = false := by simpa using h117
       rw [hb] at hI
       simp only [Bool.not_false, Bool.true_or] at hI
       have qk : (j.keys.any fun s => !plainB s) = true := hI.symm
       refine W.seq (W.region ?_)
       refine pE rfl ?_
       refine WO.nil (qs (W.ret (qbRet (qsRet (qlRet (qbRet (qsRet ?_)))))))
       refine QF.ret0 trivial rfl ?_
       refine bj ?_; first | (rw [node_lo j ho]; (repeat (first | rw [if_pos (by assumption)] | rw [if_neg (by assumption)])); done) | (exfalso; simp only [decide_eq_false_iff_not] at *; omega)
      ·
       have hb : plainB x = true := by simpa using h117
       rw [hb] at hI
       simp only [Bool.not_true, Bool.false_or] at hI
       refine W.skip (qbN (qs (W.region ?_)))
       iterate 3 refine pE rfl ?_
       refine WO.nil ?_
       refine W.endR [0] ⟨k + 1, ?_⟩ ?_ rfl ?_ trivial ?_ trivial rfl
       · exact ⟨hlt, hI⟩
       · dsimp only; omega
       · repeat' first | exact trivial | refine ⟨rfl, ?_⟩ | refine ⟨congrArg some (renL_boxE _ _ _), ?_⟩ | refine ⟨step_nat (by assumption) (by assumption), ?_⟩
       · repeat' first | exact trivial | refine ⟨rfl, ?_⟩ | refine ⟨congrArg some (renL_boxE _ _ _), ?_⟩ | refine ⟨step_nat (by assumption) (by assumption), ?_⟩
     ·
      rw [hd, List.any_nil] at hI
      have qk : ¬ (j.keys.any fun s => !plainB s) = true := by rw [← hI]; simp
      refine W.exit (qsExit (qlExit (qbExit (qs ?_))))
      iterate 2 refine W.seq ?_
      refine W.region ?_
      refine pE rfl ?_
      refine WO.nil (qs (W.block ?_))
      refine W.loopR (ι := {x : Nat // match x with | k => k ≤ j.keys.length ∧ rept (j.keys.take k) (j.keys.drop k) = rept [] j.keys})
       (fun x => match x.1 with | k => [(1, .ptr 0 0), (4, .d (.v (.int .i64 ((k : Nat) : Int))))]) []
       (fun x => match x.1 with | k => [(0, [.d (ci j.op), .d (ci j.n), .d (cs j.s), .d (.sl (j.keys.map sc)), .d (.sl (j.kids.map JV.c))])]) [] [] 1 (fun x => match x.1 with | k => j.keys.length - k)
       [0] ⟨0, ?_⟩ rfl ?_ trivial ?_ trivial rfl ?_
      · exact ⟨Nat.zero_le _, by simp⟩
      · repeat' first | exact trivial | refine ⟨rfl, ?_⟩ | refine ⟨congrArg some (renL_boxE _ _ _), ?_⟩ | refine ⟨step_nat (by assumption) (by assumption), ?_⟩
      · repeat' first | exact trivial | refine ⟨rfl, ?_⟩ | refine ⟨congrArg some (renL_boxE _ _ _), ?_⟩ | refine ⟨step_nat (by assumption) (by assumption), ?_⟩
      rintro ⟨k, hk, hR⟩
      show W _ _ _ _ _ ⟨[(1, .ptr 0 0), (4, .d (.v (.int .i64 ((k : Nat) : Int))))], [(0, [.d (ci j.op), .d (ci j.n), .d (cs j.s), .d (.sl (j.keys.map sc)), .d (.sl (j.kids.map JV.c))])], [], 1⟩
      iterate 2 refine W.seq ?_
      refine W.region ?_
      iterate 2 refine pE rfl ?_
      first | refine pE rfl ?_ | refine pR rfl rfl rfl rfl rfl ?_ | refine pB rfl rfl rfl rfl rfl rfl ?_
      iterate 2 refine pE rfl ?_
      refine WO.nil (qs ?_)
      refine eachR (l := j.keys) (k := k) rfl (by simp [Ex.kc_len, bytes_len]) hk (fun x hx hd hlt => ?_) (fun he hd => ?_)
      ·
       rw [hd] at hR
       simp only [rept] at hR
       have htk : j.keys.take (k + 1) = j.keys.take k ++ [x] := by rw [List.take_add_one, hx]; rfl
       refine W.skip (qs (W.seq (W.block (W.seq ?_))))
       refine W.regionD tab (by kernel_rfl) ?_
       refine chPu (ev tab rfl) rfl ?_
       first | refine chPu (ev tab rfl) rfl ?_ | refine chPu (loadRow tab rfl rfl rfl rfl) rfl ?_ | refine chPu (loadBox tab rfl rfl rfl rfl rfl) rfl ?_
       refine chPu (ev tab rfl) rfl ?_
       refine chPu (slTo tab rfl rfl rfl rfl rfl rfl (Int.natCast_nonneg _) (by simp; omega) (by intro y hy; obtain ⟨z, _, rfl⟩ := List.mem_map.1 hy; rfl)) rfl ?_
       refine chPu (ev tab rfl) rfl ?_
       first | refine chPu (ev tab rfl) rfl ?_ | refine chPu (loadRow tab rfl rfl rfl rfl) rfl ?_ | refine chPu (loadBox tab rfl rfl rfl rfl rfl) rfl ?_
       refine chPu (ev tab rfl) rfl ?_
       refine chPu (indexAddr tab rfl rfl rfl rfl rfl rfl (Int.natCast_nonneg _) (idx_map hx) rfl) rfl ?_
       first | refine chPu (ev tab rfl) rfl ?_ | refine chPu (loadRow tab rfl rfl rfl rfl) rfl ?_ | refine chPu (loadBox tab rfl rfl rfl rfl rfl) rfl ?_
       refine chPu (puCall rfl rfl rfl (by rw [show (((j.keys.map sc).take ((k : Int)).toNat).drop 0) = (j.keys.take k).map sc by rw [Int.toNat_natCast, List.drop_zero, List.map_take]]; exact has21_fn _ _) rfl) rfl ?_
       refine CH.nil ?_
       refine qs ?_
       refine condK rfl (fun h134 => ?_) (fun h134 => ?_)
       ·
        have qr : rept [] j.keys = true := by rw [if_pos h134] at hR; exact hR.symm
        refine W.seq (W.region ?_)
        refine pE rfl ?_
        refine WO.nil (qs (W.ret (qbRet (qsRet (qlRet (qbRet (qsRet ?_)))))))
        refine QF.ret0 trivial rfl ?_
        refine bj ?_; first | (rw [node_lo j ho]; (repeat (first | rw [if_pos (by assumption)] | rw [if_neg (by assumption)])); done) | (exfalso; simp only [decide_eq_false_iff_not] at *; omega)
       ·
        rw [if_neg (by rw [h134]; simp)] at hR
        refine W.skip (qbN (qs (W.region ?_)))
        iterate 3 refine pE rfl ?_
        refine WO.nil ?_
        refine W.endR [0] ⟨k + 1, ?_⟩ ?_ rfl ?_ trivial ?_ trivial rfl
        · exact ⟨hlt, by rw [htk]; exact hR⟩
        · dsimp only; omega
        · repeat' first | exact trivial | refine ⟨rfl, ?_⟩ | refine ⟨congrArg some (renL_boxE _ _ _), ?_⟩ | refine ⟨step_nat (by assumption) (by assumption), ?_⟩
        · repeat' first | exact trivial | refine ⟨rfl, ?_⟩ | refine ⟨congrArg some (renL_boxE _ _ _), ?_⟩ | refine ⟨step_nat (by assumption) (by assumption), ?_⟩
      ·
       rw [hd] at hR
       simp only [rept] at hR
       have qr : ¬ rept [] j.keys = true := by rw [← hR]; simp
       refine W.exit (qsExit (qlExit (qbExit (qs (W.seq (W.region ?_))))))
       refine pE rfl ?_
       refine WO.nil (qs (W.ret ?_))
       refine QF.ret0 trivial rfl ?_
       refine bj ?_; first | (rw [node_lo j ho]; (repeat (first | rw [if_pos (by assumption)] | rw [if_neg (by assumption)])); done) | (exfalso; simp only [decide_eq_false_iff_not] at *; omega)
theorem rfields_fn (j : JV) : Does Tryd.prog 49 [.ag j.c] (.d (.v (.int .i64 (nodeJ j 0)))) 0 := by
 by_cases ho : 1 ≤ j.op ∧ j.op ≤ 6
 · exact rfields_lo j ho
 · exact rfields_hi j ho
end Go.Proofs.YtllkpgnpioojjaaDoor
namespace Go.Proofs.YtllkpgnpioojjaaDoor
open Go.Ab Go.Tb
set_option maxRecDepth 10000
attribute [local irreducible] W WO Pu QS QB QL QF QV QV1 CH QE
theorem node_up (j : JV) (a : Int) : nodeJ j (a + 1) = if nodeJ j 0 ≠ 0 then nodeJ j 0 else if 5 ≤ j.op ∧ 16 ≤ a then 20 else 0 := by
 have e1 : (16 < a + 1) = (16 ≤ a) := propext (by constructor <;> intro h <;> omega)
 have e2 : ¬ (5 ≤ j.op ∧ (16 : Int) < 0) := by omega
 unfold nodeJ
 simp only [e1, if_neg e2]
 by_cases c1 : fieldsJ j = false
 · simp [c1]
 by_cases c2 : (j.op = 2 ∧ j.n ≠ 0 ∧ j.n ≠ 1) ∨ (j.op = 3 ∧ inR j.n = false)
 · simp only [if_neg c1, if_pos c2]; simp
 by_cases c3 : plainB j.s = false ∨ (j.keys.any fun s => !plainB s) = true
 · simp only [if_neg c1, if_neg c2, if_pos c3]; simp
 by_cases c4 : rept [] j.keys = true
 · simp only [if_neg c1, if_neg c2, if_neg c3, if_pos c4]; simp
 simp only [if_neg c1, if_neg c2, if_neg c3, if_neg c4]; simp
theorem kids_nil (j : JV) (h : nodeJ j 0 = 0) (h5 : j.op ≠ 5) (h6 : j.op ≠ 6) : j.kids = [] ∧ ¬ 5 ≤ j.op := by
 have hf : fieldsJ j = true := by
  by_cases c1 : fieldsJ j = false
  · unfold nodeJ at h; rw [if_pos c1] at h; cases h
  · simpa using c1
 unfold fieldsJ at hf
 rw [if_neg h5, if_neg h6] at hf
 split at hf
 · simp only [Bool.and_eq_true, decide_eq_true_eq] at hf; exact ⟨List.length_eq_zero_iff.1 (by omega), by omega⟩
 ·
  split at hf
  · simp only [Bool.and_eq_true, decide_eq_true_eq] at hf; exact ⟨List.length_eq_zero_iff.1 (by omega), by omega⟩
  ·
   split at hf
   · simp only [Bool.and_eq_true, decide_eq_true_eq] at hf; exact ⟨List.length_eq_zero_iff.1 (by omega), by omega⟩
   · cases hf
theorem check_up (j : JV) (a : Int) : checkJ j (a + 1) = if nodeJ j 0 ≠ 0 then nodeJ j 0 else if j.op ≠ 5 ∧ j.op ≠ 6 then 0 else if 16 ≤ a then 20 else checkJs j.kids (a + 1 + 1) := by
 rw [checkJ_eq, node_up]
 by_cases c1 : nodeJ j 0 = 0
 ·
  have n1 : ¬ nodeJ j 0 ≠ 0 := by simp [c1]
  simp only [if_neg n1]
  by_cases c2 : j.op ≠ 5 ∧ j.op ≠ 6
  ·
   obtain ⟨e, e'⟩ := kids_nil j c1 c2.1 c2.2
   simp only [if_pos c2, if_neg (show ¬ (5 ≤ j.op ∧ 16 ≤ a) from fun h => e' h.1), e]
   simp [checkJs]
  ·
   have h5 : 5 ≤ j.op := by omega
   simp only [if_neg c2]
   by_cases c3 : 16 ≤ a
   · simp only [if_pos (show 5 ≤ j.op ∧ 16 ≤ a from ⟨h5, c3⟩), if_pos c3]; simp
   · simp only [if_neg (show ¬ (5 ≤ j.op ∧ 16 ≤ a) from fun h => c3 h.2), if_neg c3]; simp
 · simp only [if_pos (show nodeJ j 0 ≠ 0 from c1)]
theorem rcheck_fn : ∀ (j : JV) (a : Int), 0 ≤ a → a ≤ 16 → Does Tryd.prog 28 [.ag j.c, .d (.v (.int .i64 a))] (.d (.v (.int .i64 (checkJ j (a + 1))))) 0 := by
 refine JV.ind fun j ih => ?_
 intro a h0 h1
 have hfj := rfields_fn j
 rw [jc_map j] at hfj ⊢
 have hup := check_up j a
 refine Does.of_W (n := 41) (ts := [4]) Tryd.func28 (by kernel_rfl) rfl Tryd.ntmps28 Tryd.results28 rfl rfl fun C hC hG => ?_
 refine W.seq (W.region ?_)
 refine boxR rfl rfl rfl ?_
 refine pE rfl ?_
 refine WO.nil (qs (W.seq (W.region ?_)))
 first | refine pE rfl ?_ | refine pR rfl rfl rfl rfl rfl ?_ | refine pB rfl rfl rfl rfl rfl rfl ?_
 refine pu (puCall rfl rfl rfl hfj rfl) rfl ?_
 refine pE rfl ?_
 refine WO.nil (qs ?_)
 iterate 2 refine W.seq ?_
 refine W.region ?_
 iterate 2 refine pE rfl ?_
 refine WO.nil (qs ?_)
 refine condK rfl (fun h11 => ?_) (fun h11 => ?_)
 ·
  have q11 : nodeJ j 0 ≠ 0 := by simpa using h11
  rw [if_pos q11] at hup
  refine W.seq (W.region ?_)
  iterate 2 refine pE rfl ?_
  refine WO.nil (qs (W.ret (qsRet ?_)))
  refine QF.ret0 trivial rfl ?_
  refine bj ?_; first | exact hup.symm | (rw [hup, ← hI])
 ·
  have q11 : ¬ nodeJ j 0 ≠ 0 := by simpa using h11
  rw [if_neg q11] at hup
  refine W.skip (qs ?_)
  iterate 2 refine W.seq ?_
  apply regionB; (case hb => rfl)
  ·
   refine pE rfl ?_
   first | refine pE rfl ?_ | refine pR rfl rfl rfl rfl rfl ?_ | refine pB rfl rfl rfl rfl rfl rfl ?_
   iterate 2 refine pE rfl ?_
   apply splitJ; (case hj => rfl); (case hl => rfl)
   ·
    refine goG rfl rfl ?_
    refine pE rfl ?_
    refine goG rfl rfl ?_
    first | refine pE rfl ?_ | refine pR rfl rfl rfl rfl rfl ?_ | refine pB rfl rfl rfl rfl rfl rfl ?_
    refine goG rfl rfl ?_
    iterate 2 refine pE rfl ?_
    refine WO.nil ?_
    refine qv1 rfl rfl rfl
   ·
    iterate 3 refine skipT rfl rfl rfl rfl ?_
    refine pE rfl ?_
    refine WO.nil ?_
    refine qv1 rfl rfl rfl
  refine qs ?_
  refine condK rfl (fun h20 => ?_) (fun h20 => ?_)
  ·
   have q20 : j.op ≠ 5 ∧ j.op ≠ 6 := by revert h20; simp
   rw [if_pos q20] at hup
   refine W.seq (W.region ?_)
   refine pE rfl ?_
   refine WO.nil (qs (W.ret (qsRet ?_)))
   refine QF.ret0 trivial rfl ?_
   refine bj ?_; first | exact hup.symm | (rw [hup, ← hI])
  ·
   have q20 : ¬ (j.op ≠ 5 ∧ j.op ≠ 6) := by revert h20; simp
   rw [if_neg q20] at hup
   refine W.skip (qs ?_)
   iterate 2 refine W.seq ?_
   refine W.region ?_
   iterate 2 refine pE rfl ?_
   refine WO.nil (qs ?_)
   refine condK rfl (fun h22 => ?_) (fun h22 => ?_)
   ·
    have q22 : 16 ≤ a := by simpa using h22
    rw [if_pos q22] at hup
    refine W.seq (W.region ?_)
    refine pE rfl ?_
    refine WO.nil (qs (W.ret (qsRet ?_)))
    refine QF.ret0 trivial rfl ?_
    refine bj ?_; first | exact hup.symm | (rw [hup, ← hI])
   ·
    have q22 : ¬ 16 ≤ a := by simpa using h22
    rw [if_neg q22] at hup
    refine W.skip (qs ?_)
    iterate 2 refine W.seq ?_
    refine W.region ?_
    refine pE rfl ?_
    refine WO.nil (qs (W.block ?_))
    refine lenBox (g := 0) (j := 4) rfl rfl (fun hlen => ?_)
    rw [List.length_map] at hlen
    refine W.loopR (ι := {x : Nat // match x with | k => k ≤ j.kids.length ∧ checkJs (j.kids.drop k) (a + 1 + 1) = checkJs j.kids (a + 1 + 1)})
     (fun x => match x.1 with | k => [(1, .d (.v (.int .i64 a))), (2, .ptr 0 0), (6, .d (.v (.int .i64 ((k : Nat) : Int))))]) []
     (fun x => match x.1 with | k => [(0, [.d (ci j.op), .d (ci j.n), .d (cs j.s), .d (.sl (j.keys.map sc)), .d (.sl (j.kids.map JV.c))])]) [] [] 1 (fun x => match x.1 with | k => j.kids.length - k)
     [0] ⟨0, ?_⟩ rfl ?_ trivial ?_ trivial rfl ?_
    · exact ⟨Nat.zero_le _, by simp⟩
    · repeat' first | exact trivial | refine ⟨rfl, ?_⟩ | refine ⟨congrArg some (renL_boxE _ _ _), ?_⟩ | refine ⟨step_nat (by assumption) (by assumption), ?_⟩
    · repeat' first | exact trivial | refine ⟨rfl, ?_⟩ | refine ⟨congrArg some (renL_boxE _ _ _), ?_⟩ | refine ⟨step_nat (by assumption) (by assumption), ?_⟩
    rintro ⟨k, hk, hI⟩
    show W _ _ _ _ _ ⟨[(1, .d (.v (.int .i64 a))), (2, .ptr 0 0), (6, .d (.v (.int .i64 ((k : Nat) : Int))))], [(0, [.d (ci j.op), .d (ci j.n), .d (cs j.s), .d (.sl (j.keys.map sc)), .d (.sl (j.kids.map JV.c))])], [], 1⟩
    iterate 2 refine W.seq ?_
    refine W.region ?_
    iterate 2 refine pE rfl ?_
    first | refine pE rfl ?_ | refine pR rfl rfl rfl rfl rfl ?_ | refine pB rfl rfl rfl rfl rfl rfl ?_
    iterate 2 refine pE rfl ?_
    refine WO.nil (qs ?_)
    refine eachR (l := j.kids) (k := k) rfl (by simp [Ex.kc_len, bytes_len]) hk (fun z hx hd hlt => ?_) (fun he hd => ?_)
    ·
     rw [hd] at hI
     simp only [checkJs] at hI
     have hxc := ih z (List.mem_of_getElem? hx) (a + 1) (by omega) (by omega)
     refine W.skip (qs (W.seq (W.block (W.seq (W.region ?_)))))
     refine pE rfl ?_
     first | refine pE rfl ?_ | refine pR rfl rfl rfl rfl rfl ?_ | refine pB rfl rfl rfl rfl rfl rfl ?_
     refine pE rfl ?_
     refine pu (indexAddr tab rfl rfl rfl rfl rfl rfl (Int.natCast_nonneg _) (idx_map hx) rfl) rfl ?_
     first | refine pE rfl ?_ | refine pR rfl rfl rfl rfl rfl ?_ | refine pB rfl rfl rfl rfl rfl rfl ?_
     refine pE rfl ?_
     refine pu (puI (ev tab rfl) (wrap64 (by omega))) rfl ?_
     refine pu (puCall rfl rfl rfl hxc rfl) rfl ?_
     refine pE rfl ?_
     refine WO.nil (qs (W.seq (W.region ?_)))
     iterate 2 refine pE rfl ?_
     refine WO.nil (qs ?_)
     refine condK rfl (fun h39 => ?_) (fun h39 => ?_)
     ·
      have hc : checkJ z (a + 1 + 1) ≠ 0 := by simpa using h39
      rw [if_pos hc] at hI
      refine W.seq (W.region ?_)
      iterate 2 refine pE rfl ?_
      refine WO.nil (qs (W.ret (qbRet (qsRet (qlRet (qbRet (qsRet ?_)))))))
      refine QF.ret0 trivial rfl ?_
      refine bj ?_; first | exact hup.symm | (rw [hup, ← hI])
     ·
      have hc : checkJ z (a + 1 + 1) = 0 := by simpa using h39
      rw [if_neg (by simp [hc])] at hI
      refine W.skip (qbN (qs (W.region ?_)))
      iterate 3 refine pE rfl ?_
      refine WO.nil ?_
      refine W.endR [0] ⟨k + 1, ?_⟩ ?_ rfl ?_ trivial ?_ trivial rfl
      · exact ⟨hlt, hI⟩
      · dsimp only; omega
      · repeat' first | exact trivial | refine ⟨rfl, ?_⟩ | refine ⟨congrArg some (renL_boxE _ _ _), ?_⟩ | refine ⟨step_nat (by assumption) (by assumption), ?_⟩
      · repeat' first | exact trivial | refine ⟨rfl, ?_⟩ | refine ⟨congrArg some (renL_boxE _ _ _), ?_⟩ | refine ⟨step_nat (by assumption) (by assumption), ?_⟩
    ·
     rw [hd] at hI
     simp only [checkJs] at hI
     refine W.exit (qsExit (qlExit (qbExit (qs (W.seq (W.region ?_))))))
     refine pE rfl ?_
     refine WO.nil (qs (W.ret ?_))
     refine QF.ret0 trivial rfl ?_
     refine bj ?_; first | exact hup.symm | (rw [hup, ← hI])
theorem rCheck_fn (j : JV) : Does Tryd.prog 16 [.ag j.c] (.d (.v (.int .i64 (checkJ j 1)))) 0 := by
 have h := rcheck_fn j 0 (by omega) (by omega)
 rw [jc_map j] at h ⊢
 refine Does.of_W (n := 5) (ts := [2]) Tryd.func16 (by kernel_rfl) rfl Tryd.ntmps16 Tryd.results16 rfl rfl fun C hC hG => ?_
 refine W.seq (W.region ?_)
 refine boxR rfl rfl rfl ?_
 refine pE rfl ?_
 refine WO.nil (qs (W.seq (W.region ?_)))
 first | refine pE rfl ?_ | refine pR rfl rfl rfl rfl rfl ?_ | refine pB rfl rfl rfl rfl rfl rfl ?_
 refine pu (puCall rfl rfl rfl h rfl) rfl ?_
 refine pE rfl ?_
 refine WO.nil (qs (W.ret ?_))
 refine QF.ret0 trivial rfl ?_
 rfl
theorem pCheck_fn (j : JV) : Does Tryd.prog 15 [.ag j.c] (.d (.v (.int .i64 (checkJ j 1)))) 0 := by
 have h := check_fn j 1 (by omega) (by omega)
 rw [jc_map j] at h ⊢
 refine Does.of_W (n := 5) (ts := [2]) Tryd.func15 (by kernel_rfl) rfl Tryd.ntmps15 Tryd.results15 rfl rfl fun C hC hG => ?_
 refine W.seq (W.region ?_)
 refine boxR rfl rfl rfl ?_
 refine pE rfl ?_
 refine WO.nil (qs (W.seq (W.region ?_)))
 first | refine pE rfl ?_ | refine pR rfl rfl rfl rfl rfl ?_ | refine pB rfl rfl rfl rfl rfl rfl ?_
 refine pu (puCall rfl rfl rfl h rfl) rfl ?_
 refine pE rfl ?_
 refine WO.nil (qs (W.ret ?_))
 refine QF.ret0 trivial rfl ?_
 rfl
end Go.Proofs.YtllkpgnpioojjaaDoor
namespace Go.Proofs.YtllkpgnpioojjaaDoor
open Go.Ab Go.Tb
set_option maxRecDepth 10000
attribute [local irreducible] W WO Pu QS QB QL QF QV QV1 CH QE
def oJ (o : Option JV) : JV := o.getD zeroJ
theorem getJ_no {j : JV} {key : ByteArray} (h : j.op ≠ 6) : getJ j key = none := by unfold getJ; rw [if_neg h]
theorem getJ_idx {j : JV} {key : ByteArray} {k : Nat} (h : j.op = 6) (hi : (j.keys.findIdx? fun x => decide (key = x)) = some k) : getJ j key = j.kids[k]? := by unfold getJ; rw [if_pos h, hi]
theorem getJ_none {j : JV} {key : ByteArray} (hi : (j.keys.findIdx? fun x => decide (key = x)) = none) : getJ j key = none := by unfold getJ; rw [hi]; simp
theorem rGet_fn (j : JV) (key : ByteArray) : Does Tryd.prog 14 [.ag j.c, .d (.v (.string key))] (.tup [.ag (oJ (getJ j key)).c, .d (.v (.bool (getJ j key).isSome))]) 0 := by
 rw [jc_map j]
 refine Does.of_V tab (n := 37) (rs := [.cell 4 26, .tmp 5]) Tryd.func14 (by kernel_rfl) rfl Tryd.ntmps14 Tryd.results14 rfl fun C hC hG => ?_
 refine W.seq (W.region ?_)
 refine boxR rfl rfl rfl ?_
 refine allocR tab rfl rfl rfl ?_
 refine pE rfl ?_
 refine WO.nil (qs ?_)
 iterate 2 refine W.seq ?_
 refine W.region ?_
 refine pE rfl ?_
 first | refine pE rfl ?_ | refine pR rfl rfl rfl rfl rfl ?_ | refine pB rfl rfl rfl rfl rfl rfl ?_
 refine pE rfl ?_
 refine WO.nil (qs ?_)
 refine condK rfl (fun h9 => ?_) (fun h9 => ?_)
 ·
  have hg : getJ j key = none := getJ_no (by simpa using h9)
  refine W.seq (W.region ?_)
  refine pu (build tab rfl rfl rfl rfl) rfl ?_
  try refine nilO 10 rfl rfl rfl ?_
  refine storeR tab rfl rfl rfl rfl rfl rfl rfl rfl ?_
  refine pE rfl ?_
  refine WO.nil (qs (W.ret (qsRet ?_)))
  refine QV.ret0 tab trivial rfl ?_
  rw [hg]; rfl
 ·
  have hop : j.op = 6 := by simpa using h9
  refine W.skip (qs ?_)
  iterate 2 refine W.seq ?_
  refine W.region ?_
  refine pE rfl ?_
  refine WO.nil (qs (W.block ?_))
  refine lenBox (g := 0) (j := 3) rfl rfl (fun hlen => ?_)
  rw [List.length_map] at hlen
  refine W.loopR (ι := {x : Nat // match x with | k => k ≤ j.keys.length ∧ ((j.keys.drop k).findIdx? fun x => decide (key = x)).map (fun i => i + k) = (j.keys.findIdx? fun x => decide (key = x))})
   (fun x => match x.1 with | k => [(1, .d (.v (.string key))), (2, .ptr 0 0), (4, .ptr 1 0), (6, .d (.v (.int .i64 ((k : Nat) : Int))))]) []
   (fun x => match x.1 with | k => [(0, [.d (ci j.op), .d (ci j.n), .d (cs j.s), .d (.sl (j.keys.map sc)), .d (.sl (j.kids.map JV.c))])]) [(1, _)] [] 2 (fun x => match x.1 with | k => j.keys.length - k)
   [0, 1] ⟨0, ?_⟩ rfl ?_ trivial ?_ ⟨rfl, rfl, trivial⟩ rfl ?_
  · exact ⟨Nat.zero_le _, by simp⟩
  · repeat' first | exact trivial | refine ⟨rfl, ?_⟩ | refine ⟨congrArg some (renL_boxE _ _ _), ?_⟩ | refine ⟨step_nat (by assumption) (by assumption), ?_⟩
  · repeat' first | exact trivial | refine ⟨rfl, ?_⟩ | refine ⟨congrArg some (renL_boxE _ _ _), ?_⟩ | refine ⟨step_nat (by assumption) (by assumption), ?_⟩
  rintro ⟨k, hk, hI⟩
  show W _ _ _ _ _ ⟨[(1, .d (.v (.string key))), (2, .ptr 0 0), (4, .ptr 1 0), (6, .d (.v (.int .i64 ((k : Nat) : Int))))], [(0, [.d (ci j.op), .d (ci j.n), .d (cs j.s), .d (.sl (j.keys.map sc)), .d (.sl (j.kids.map JV.c))]), (1, _)], [], 2⟩
  iterate 2 refine W.seq ?_
  refine W.region ?_
  iterate 2 refine pE rfl ?_
  first | refine pE rfl ?_ | refine pR rfl rfl rfl rfl rfl ?_ | refine pB rfl rfl rfl rfl rfl rfl ?_
  iterate 2 refine pE rfl ?_
  refine WO.nil (qs ?_)
  refine eachR (l := j.keys) (k := k) rfl (by simp [Ex.kc_len, bytes_len]) hk (fun x hx hd hlt => ?_) (fun he hd => ?_)
  ·
   rw [hd, List.findIdx?_cons] at hI
   refine W.skip (qs (W.seq (W.block (W.seq (W.region ?_)))))
   refine pE rfl ?_
   first | refine pE rfl ?_ | refine pR rfl rfl rfl rfl rfl ?_ | refine pB rfl rfl rfl rfl rfl rfl ?_
   refine pE rfl ?_
   refine pu (indexAddr tab rfl rfl rfl rfl rfl rfl (Int.natCast_nonneg _) (idx_map hx) rfl) rfl ?_
   first | refine pE rfl ?_ | refine pR rfl rfl rfl rfl rfl ?_ | refine pB rfl rfl rfl rfl rfl rfl ?_
   iterate 2 refine pE rfl ?_
   refine WO.nil (qs ?_)
   refine condK rfl (fun h24 => ?_) (fun h24 => ?_)
   ·
    have hi : (j.keys.findIdx? fun x => decide (key = x)) = some k := by rw [← hI, if_pos (by simp at h24 ⊢; exact h24.symm)]; simp
    have hgi := getJ_idx hop hi
    iterate 2 refine W.seq ?_
    refine W.region ?_
    iterate 2 refine pE rfl ?_
    first | refine pE rfl ?_ | refine pR rfl rfl rfl rfl rfl ?_ | refine pB rfl rfl rfl rfl rfl rfl ?_
    iterate 2 refine pE rfl ?_
    refine WO.nil (qs ?_)
    refine condK rfl (fun h29 => ?_) (fun h29 => ?_)
    ·
     have hg : getJ j key = none := by rw [hgi]; simp at h29 ⊢; omega
     refine W.seq (W.region ?_)
     refine pu (build tab rfl rfl rfl rfl) rfl ?_
     try refine nilO 30 rfl rfl rfl ?_
     refine storeR tab rfl rfl rfl rfl rfl rfl rfl rfl ?_
     refine pE rfl ?_
     refine WO.nil (qs (W.ret (qsRet (qbRet (qsRet (qlRet (qbRet (qsRet ?_))))))))
     refine QV.ret0 tab trivial rfl ?_
     rw [hg]; rfl
    ·
     obtain ⟨y, hy⟩ : ∃ y, j.kids[k]? = some y := by simp at h29; exact ⟨j.kids[k], by simp [h29]⟩
     have hg : getJ j key = some y := by rw [hgi, hy]
     refine W.skip (qs (W.seq (W.region ?_)))
     refine pE rfl ?_
     first | refine pE rfl ?_ | refine pR rfl rfl rfl rfl rfl ?_ | refine pB rfl rfl rfl rfl rfl rfl ?_
     refine pE rfl ?_
     refine pu (indexAddr (l := y.c) tab rfl rfl rfl rfl rfl rfl (Int.natCast_nonneg _) (idx_map hy) rfl) rfl ?_
     first | refine pE rfl ?_ | refine pR rfl rfl rfl rfl rfl ?_ | refine pB rfl rfl rfl rfl rfl rfl ?_
     refine storeR tab rfl rfl rfl rfl rfl rfl rfl rfl ?_
     refine pE rfl ?_
     refine WO.nil (qs (W.ret (qbRet (qsRet (qlRet (qbRet (qsRet ?_)))))))
     refine QV.ret0 tab trivial rfl ?_
     rw [hg]; rfl
   ·
    rw [if_neg (by simp at h24 ⊢; exact fun e => h24 e.symm)] at hI
    refine W.skip (qbN (qs (W.region ?_)))
    iterate 3 refine pE rfl ?_
    refine WO.nil ?_
    refine W.endR [0, 1] ⟨k + 1, ?_⟩ ?_ rfl ?_ trivial ?_ ⟨rfl, rfl, trivial⟩ rfl
    · exact ⟨hlt, by rw [← hI, Option.map_map]; exact congrArg (fun f => Option.map f _) (funext fun i => (by show i + (k + 1) = i + 1 + k; omega))⟩
    · dsimp only; omega
    · repeat' first | exact trivial | refine ⟨rfl, ?_⟩ | refine ⟨congrArg some (renL_boxE _ _ _), ?_⟩ | refine ⟨step_nat (by assumption) (by assumption), ?_⟩
    · repeat' first | exact trivial | refine ⟨rfl, ?_⟩ | refine ⟨congrArg some (renL_boxE _ _ _), ?_⟩ | refine ⟨step_nat (by assumption) (by assumption), ?_⟩
  ·
   rw [hd] at hI
   have hg : getJ j key = none := getJ_none (by rw [← hI]; rfl)
   refine W.exit (qsExit (qlExit (qbExit (qs (W.seq (W.region ?_))))))
   refine pu (build tab rfl rfl rfl rfl) rfl ?_
   try refine nilO 36 rfl rfl rfl ?_
   refine storeR tab rfl rfl rfl rfl rfl rfl rfl rfl ?_
   refine pE rfl ?_
   refine WO.nil (qs (W.ret ?_))
   refine QV.ret0 tab trivial rfl ?_
   rw [hg]; rfl
theorem pGet_fn (j : JV) (key : ByteArray) : Does Tryd.prog 13 [.ag j.c, .d (.v (.string key))] (.tup [.ag (oJ (getJ j key)).c, .d (.v (.bool (getJ j key).isSome))]) 0 := by
 rw [jc_map j]
 refine Does.of_V tab (n := 31) (rs := [.cell 4 26, .tmp 5]) Tryd.func13 (by kernel_rfl) rfl Tryd.ntmps13 Tryd.results13 rfl fun C hC hG => ?_
 refine W.seq (W.region ?_)
 refine boxR rfl rfl rfl ?_
 refine allocR tab rfl rfl rfl ?_
 refine pE rfl ?_
 refine WO.nil (qs (W.seq (W.region ?_)))
 refine pE rfl ?_
 first | refine pE rfl ?_ | refine pR rfl rfl rfl rfl rfl ?_ | refine pB rfl rfl rfl rfl rfl rfl ?_
 refine pE rfl ?_
 refine pu (puCall rfl rfl rfl (index_fn j.keys key) rfl) rfl ?_
 refine pE rfl ?_
 refine WO.nil (qs ?_)
 iterate 2 refine W.seq ?_
 apply regionB; (case hb => rfl)
 ·
  refine pE rfl ?_
  first | refine pE rfl ?_ | refine pR rfl rfl rfl rfl rfl ?_ | refine pB rfl rfl rfl rfl rfl rfl ?_
  iterate 2 refine pE rfl ?_
  apply splitJ; (case hj => rfl); (case hl => rfl)
  ·
   iterate 2 refine skipT rfl rfl rfl rfl ?_
   iterate 2 refine pE rfl ?_
   iterate 5 refine skipT rfl rfl rfl rfl ?_
   refine pE rfl ?_
   refine WO.nil ?_
   refine qv1 rfl rfl rfl
  ·
   refine goG rfl rfl ?_
   refine pE rfl ?_
   refine goG rfl rfl ?_
   iterate 3 refine pE rfl ?_
   apply splitJ; (case hj => rfl); (case hl => rfl)
   ·
    iterate 5 refine skipT rfl rfl rfl rfl ?_
    refine pE rfl ?_
    refine WO.nil ?_
    refine qv1 rfl rfl rfl
   ·
    refine goG rfl rfl ?_
    refine pE rfl ?_
    refine goG rfl rfl ?_
    refine pE rfl ?_
    refine goG rfl rfl ?_
    first | refine pE rfl ?_ | refine pR rfl rfl rfl rfl rfl ?_ | refine pB rfl rfl rfl rfl rfl rfl ?_
    refine goG rfl rfl ?_
    refine pE rfl ?_
    refine goG rfl rfl ?_
    iterate 2 refine pE rfl ?_
    refine WO.nil ?_
    refine qv1 rfl rfl rfl
 refine qs ?_
 refine condK rfl (fun h24 => ?_) (fun h24 => ?_)
 ·
  have hg : getJ j key = none := by
   by_cases ho : j.op = 6
   ·
    cases hi : (j.keys.findIdx? fun x => decide (key = x)) with
    | none => exact getJ_none hi
    | some k =>
     rw [getJ_idx ho hi]
     rw [hi, show idx (some k) = (k : Int) from rfl] at h24
     simp [ho] at h24 ⊢
     omega
   · exact getJ_no ho
  refine W.seq (W.region ?_)
  refine pu (build tab rfl rfl rfl rfl) rfl ?_
  try refine nilO 25 rfl rfl rfl ?_
  refine storeR tab rfl rfl rfl rfl rfl rfl rfl rfl ?_
  refine pE rfl ?_
  refine WO.nil (qs (W.ret (qsRet ?_)))
  refine QV.ret0 tab trivial rfl ?_
  rw [hg]; rfl
 ·
  obtain ⟨k, y, hk, hy, hg⟩ : ∃ (k : Nat) (y : JV), idx (j.keys.findIdx? fun x => decide (key = x)) = (k : Int) ∧ j.kids[k]? = some y ∧ getJ j key = some y := by
   by_cases ho : j.op = 6
   ·
    cases hi : (j.keys.findIdx? fun x => decide (key = x)) with
    | none => rw [hi] at h24; simp [idx] at h24
    | some k =>
     rw [hi] at h24
     rw [show idx (some k) = (k : Int) from rfl] at h24
     have hkl : k < j.kids.length := by simp [ho] at h24; omega
     exact ⟨k, j.kids[k], rfl, by simp [hkl], by rw [getJ_idx ho hi]; simp [hkl]⟩
   · simp [ho] at h24
  rw [hk]
  refine W.skip (qs (W.seq (W.region ?_)))
  refine pE rfl ?_
  first | refine pE rfl ?_ | refine pR rfl rfl rfl rfl rfl ?_ | refine pB rfl rfl rfl rfl rfl rfl ?_
  refine pE rfl ?_
  refine pu (indexAddr (l := y.c) tab rfl rfl rfl rfl rfl rfl (Int.natCast_nonneg _) (idx_map hy) rfl) rfl ?_
  first | refine pE rfl ?_ | refine pR rfl rfl rfl rfl rfl ?_ | refine pB rfl rfl rfl rfl rfl rfl ?_
  refine storeR tab rfl rfl rfl rfl rfl rfl rfl rfl ?_
  refine pE rfl ?_
  refine WO.nil (qs (W.ret ?_))
  refine QV.ret0 tab trivial rfl ?_
  rw [hg]; rfl
end Go.Proofs.YtllkpgnpioojjaaDoor
namespace Go.Proofs.YtllkpgnpioojjaaDoor
open Go.Ab Go.Tb
set_option maxRecDepth 10000
attribute [local irreducible] W WO Pu QS QB QL QF QV QV1 CH QE
theorem eq5 (a b : JV) : eqJ a b = (decide (a.op = b.op) && (decide (a.n = b.n) && (decide (a.s = b.s) && (decide (a.keys = b.keys) && eqJs a.kids b.kids)))) := by cases a; cases b; rfl
theorem eq_no {a b : JV} (h : a ≠ b) : eqJ a b = false := by
 cases he : eqJ a b with
 | false => rfl
 | true => exact absurd ((eqJ_iff a b).1 he) h
theorem rSame_fn : ∀ (a b : JV), Does Tryd.prog 17 [.ag a.c, .ag b.c] (.d (.v (.bool (eqJ a b)))) 0 := by
 refine JV.ind fun a ih => ?_
 intro b
 rw [jc_map a, jc_map b]
 refine Does.of_W (n := 81) (ts := [4]) Tryd.func17 (by kernel_rfl) rfl Tryd.ntmps17 Tryd.results17 rfl rfl fun C hC hG => ?_
 refine W.seq (W.region ?_)
 refine boxR rfl rfl rfl ?_
 refine boxR rfl rfl rfl ?_
 refine pE rfl ?_
 refine WO.nil (qs ?_)
 iterate 2 refine W.seq ?_
 apply regionB; (case hb => rfl)
 ·
  refine pE rfl ?_
  first | refine pE rfl ?_ | refine pR rfl rfl rfl rfl rfl ?_ | refine pB rfl rfl rfl rfl rfl rfl ?_
  refine pE rfl ?_
  first | refine pE rfl ?_ | refine pR rfl rfl rfl rfl rfl ?_ | refine pB rfl rfl rfl rfl rfl rfl ?_
  iterate 2 refine pE rfl ?_
  apply splitJ; (case hj => rfl); (case hl => rfl)
  ·
   iterate 5 refine skipT rfl rfl rfl rfl ?_
   iterate 2 refine pE rfl ?_
   iterate 5 refine skipT rfl rfl rfl rfl ?_
   iterate 2 refine pE rfl ?_
   iterate 7 refine skipT rfl rfl rfl rfl ?_
   iterate 2 refine pE rfl ?_
   iterate 7 refine skipT rfl rfl rfl rfl ?_
   refine pE rfl ?_
   refine WO.nil ?_
   refine qv1 rfl rfl rfl
  ·
   refine goG rfl rfl ?_
   refine pE rfl ?_
   refine goG rfl rfl ?_
   first | refine pE rfl ?_ | refine pR rfl rfl rfl rfl rfl ?_ | refine pB rfl rfl rfl rfl rfl rfl ?_
   refine goG rfl rfl ?_
   refine pE rfl ?_
   refine goG rfl rfl ?_
   first | refine pE rfl ?_ | refine pR rfl rfl rfl rfl rfl ?_ | refine pB rfl rfl rfl rfl rfl rfl ?_
   refine goG rfl rfl ?_
   iterate 3 refine pE rfl ?_
   apply splitJ; (case hj => rfl); (case hl => rfl)
   ·
    iterate 5 refine skipT rfl rfl rfl rfl ?_
    iterate 2 refine pE rfl ?_
    iterate 7 refine skipT rfl rfl rfl rfl ?_
    iterate 2 refine pE rfl ?_
    iterate 7 refine skipT rfl rfl rfl rfl ?_
    refine pE rfl ?_
    refine WO.nil ?_
    refine qv1 rfl rfl rfl
   ·
    refine goG rfl rfl ?_
    refine pE rfl ?_
    refine goG rfl rfl ?_
    first | refine pE rfl ?_ | refine pR rfl rfl rfl rfl rfl ?_ | refine pB rfl rfl rfl rfl rfl rfl ?_
    refine goG rfl rfl ?_
    refine pE rfl ?_
    refine goG rfl rfl ?_
    first | refine pE rfl ?_ | refine pR rfl rfl rfl rfl rfl ?_ | refine pB rfl rfl rfl rfl rfl rfl ?_
    refine goG rfl rfl ?_
    iterate 3 refine pE rfl ?_
    apply splitJ; (case hj => rfl); (case hl => rfl)
    ·
     iterate 7 refine skipT rfl rfl rfl rfl ?_
     iterate 2 refine pE rfl ?_
     iterate 7 refine skipT rfl rfl rfl rfl ?_
     refine pE rfl ?_
     refine WO.nil ?_
     refine qv1 rfl rfl rfl
    ·
     refine goG rfl rfl ?_
     refine pE rfl ?_
     refine goG rfl rfl ?_
     first | refine pE rfl ?_ | refine pR rfl rfl rfl rfl rfl ?_ | refine pB rfl rfl rfl rfl rfl rfl ?_
     refine goG rfl rfl ?_
     refine pE rfl ?_
     refine goG rfl rfl ?_
     refine pE rfl ?_
     refine goG rfl rfl ?_
     first | refine pE rfl ?_ | refine pR rfl rfl rfl rfl rfl ?_ | refine pB rfl rfl rfl rfl rfl rfl ?_
     refine goG rfl rfl ?_
     refine pE rfl ?_
     refine goG rfl rfl ?_
     iterate 3 refine pE rfl ?_
     apply splitJ; (case hj => rfl); (case hl => rfl)
     ·
      iterate 7 refine skipT rfl rfl rfl rfl ?_
      refine pE rfl ?_
      refine WO.nil ?_
      refine qv1 rfl rfl rfl
     ·
      refine goG rfl rfl ?_
      refine pE rfl ?_
      refine goG rfl rfl ?_
      first | refine pE rfl ?_ | refine pR rfl rfl rfl rfl rfl ?_ | refine pB rfl rfl rfl rfl rfl rfl ?_
      refine goG rfl rfl ?_
      refine pE rfl ?_
      refine goG rfl rfl ?_
      refine pE rfl ?_
      refine goG rfl rfl ?_
      first | refine pE rfl ?_ | refine pR rfl rfl rfl rfl rfl ?_ | refine pB rfl rfl rfl rfl rfl rfl ?_
      refine goG rfl rfl ?_
      refine pE rfl ?_
      refine goG rfl rfl ?_
      iterate 2 refine pE rfl ?_
      refine WO.nil ?_
      refine qv1 rfl rfl rfl
 refine qs ?_
 refine condK rfl (fun h43 => ?_) (fun h43 => ?_)
 ·
  have hg : eqJ a b = false := eq_no (by rintro rfl; simp at h43)
  refine W.seq (W.region ?_)
  refine pE rfl ?_
  refine WO.nil (qs (W.ret (qsRet ?_)))
  refine QF.ret0 trivial rfl ?_
  rw [hg]; rfl
 ·
  have q : a.op = b.op ∧ a.n = b.n ∧ a.s = b.s ∧ a.keys.length = b.keys.length ∧ a.kids.length = b.kids.length := by
   simp only [List.length_map] at h43; grind
  refine W.skip (qs ?_)
  iterate 2 refine W.seq ?_
  refine W.region ?_
  refine pE rfl ?_
  refine WO.nil (qs (W.block ?_))
  refine lenBox (g := 0) (j := 3) rfl rfl (fun hlen => ?_)
  rw [List.length_map] at hlen
  refine W.loopR (ι := {x : Nat // match x with | k => k ≤ a.keys.length ∧ (a.keys.drop k = b.keys.drop k ↔ a.keys = b.keys)})
   (fun x => match x.1 with | k => [(2, .ptr 0 0), (3, .ptr 1 0), (5, .d (.v (.int .i64 ((k : Nat) : Int))))]) []
   (fun x => match x.1 with | k => [(0, [.d (ci a.op), .d (ci a.n), .d (cs a.s), .d (.sl (a.keys.map sc)), .d (.sl (a.kids.map JV.c))]), (1, [.d (ci b.op), .d (ci b.n), .d (cs b.s), .d (.sl (b.keys.map sc)), .d (.sl (b.kids.map JV.c))])]) [] [] 2 (fun x => match x.1 with | k => a.keys.length - k)
   [0, 1] ⟨0, ?_⟩ rfl ?_ trivial ?_ trivial rfl ?_
  · exact ⟨Nat.zero_le _, by simp⟩
  · repeat' first | exact trivial | refine ⟨rfl, ?_⟩ | refine ⟨congrArg some (renL_boxE _ _ _), ?_⟩ | refine ⟨step_nat (by assumption) (by assumption), ?_⟩
  · repeat' first | exact trivial | refine ⟨rfl, ?_⟩ | refine ⟨congrArg some (renL_boxE _ _ _), ?_⟩ | refine ⟨step_nat (by assumption) (by assumption), ?_⟩
  rintro ⟨k, hk, hI⟩
  show W _ _ _ _ _ ⟨[(2, .ptr 0 0), (3, .ptr 1 0), (5, .d (.v (.int .i64 ((k : Nat) : Int))))], [(0, [.d (ci a.op), .d (ci a.n), .d (cs a.s), .d (.sl (a.keys.map sc)), .d (.sl (a.kids.map JV.c))]), (1, [.d (ci b.op), .d (ci b.n), .d (cs b.s), .d (.sl (b.keys.map sc)), .d (.sl (b.kids.map JV.c))])], [], 2⟩
  iterate 2 refine W.seq ?_
  refine W.region ?_
  iterate 2 refine pE rfl ?_
  first | refine pE rfl ?_ | refine pR rfl rfl rfl rfl rfl ?_ | refine pB rfl rfl rfl rfl rfl rfl ?_
  iterate 2 refine pE rfl ?_
  refine WO.nil (qs ?_)
  refine eachR (l := a.keys) (k := k) rfl (by simp [Ex.kc_len, bytes_len]) hk (fun x hx hd hlt => ?_) (fun he hd => ?_)
  ·
   obtain ⟨y, hy, hyd⟩ := exAt (l := b.keys) (k := k) (by omega)
   rw [hd, hyd] at hI
   refine W.skip (qs (W.seq (W.block (W.seq ?_))))
   refine W.regionD tab (by kernel_rfl) ?_
   refine chPu (ev tab rfl) rfl ?_
   first | refine chPu (ev tab rfl) rfl ?_ | refine chPu (loadRow tab rfl rfl rfl rfl) rfl ?_ | refine chPu (loadBox tab rfl rfl rfl rfl rfl) rfl ?_
   refine chPu (ev tab rfl) rfl ?_
   refine chPu (indexAddr tab rfl rfl rfl rfl rfl rfl (Int.natCast_nonneg _) (idx_map hx) rfl) rfl ?_
   first | refine chPu (ev tab rfl) rfl ?_ | refine chPu (loadRow tab rfl rfl rfl rfl) rfl ?_ | refine chPu (loadBox tab rfl rfl rfl rfl rfl) rfl ?_
   refine chPu (ev tab rfl) rfl ?_
   first | refine chPu (ev tab rfl) rfl ?_ | refine chPu (loadRow tab rfl rfl rfl rfl) rfl ?_ | refine chPu (loadBox tab rfl rfl rfl rfl rfl) rfl ?_
   refine chPu (ev tab rfl) rfl ?_
   refine chPu (indexAddr tab rfl rfl rfl rfl rfl rfl (Int.natCast_nonneg _) (idx_map hy) rfl) rfl ?_
   first | refine chPu (ev tab rfl) rfl ?_ | refine chPu (loadRow tab rfl rfl rfl rfl) rfl ?_ | refine chPu (loadBox tab rfl rfl rfl rfl rfl) rfl ?_
   refine chPu (ev tab rfl) rfl ?_
   refine CH.nil ?_
   refine qs ?_
   refine condK rfl (fun h61 => ?_) (fun h61 => ?_)
   ·
    have hxy : x ≠ y := by rintro rfl; simp at h61
    have hg : eqJ a b = false := eq_no (by rintro rfl; rw [hx] at hy; cases hy; exact hxy rfl)
    refine W.seq (W.region ?_)
    refine pE rfl ?_
    refine WO.nil (qs (W.ret (qbRet (qsRet (qlRet (qbRet (qsRet ?_)))))))
    refine QF.ret0 trivial rfl ?_
    rw [hg]; rfl
   ·
    have hxy : x = y := by simpa using h61
    refine W.skip (qbN (qs (W.region ?_)))
    iterate 3 refine pE rfl ?_
    refine WO.nil ?_
    refine W.endR [0, 1] ⟨k + 1, ?_⟩ ?_ rfl ?_ trivial ?_ trivial rfl
    · exact ⟨hlt, by rw [← hI, hxy]; simp⟩
    · dsimp only; omega
    · repeat' first | exact trivial | refine ⟨rfl, ?_⟩ | refine ⟨congrArg some (renL_boxE _ _ _), ?_⟩ | refine ⟨step_nat (by assumption) (by assumption), ?_⟩
    · repeat' first | exact trivial | refine ⟨rfl, ?_⟩ | refine ⟨congrArg some (renL_boxE _ _ _), ?_⟩ | refine ⟨step_nat (by assumption) (by assumption), ?_⟩
  ·
   rw [hd, dropEnd (l := b.keys) (by omega)] at hI
   have qk : a.keys = b.keys := hI.1 rfl
   refine W.exit (qsExit (qlExit (qbExit (qs ?_))))
   iterate 2 refine W.seq ?_
   refine W.region ?_
   refine pE rfl ?_
   refine WO.nil (qs (W.block ?_))
   refine lenBox (g := 0) (j := 4) rfl rfl (fun hlen => ?_)
   rw [List.length_map] at hlen
   refine W.loopR (ι := {x : Nat // match x with | k => k ≤ a.kids.length ∧ eqJs (a.kids.drop k) (b.kids.drop k) = eqJs a.kids b.kids})
    (fun x => match x.1 with | k => [(2, .ptr 0 0), (3, .ptr 1 0), (6, .d (.v (.int .i64 ((k : Nat) : Int))))]) []
    (fun x => match x.1 with | k => [(0, [.d (ci a.op), .d (ci a.n), .d (cs a.s), .d (.sl (a.keys.map sc)), .d (.sl (a.kids.map JV.c))]), (1, [.d (ci b.op), .d (ci b.n), .d (cs b.s), .d (.sl (b.keys.map sc)), .d (.sl (b.kids.map JV.c))])]) [] [] 2 (fun x => match x.1 with | k => a.kids.length - k)
    [0, 1] ⟨0, ?_⟩ rfl ?_ trivial ?_ trivial rfl ?_
   · exact ⟨Nat.zero_le _, by simp⟩
   · repeat' first | exact trivial | refine ⟨rfl, ?_⟩ | refine ⟨congrArg some (renL_boxE _ _ _), ?_⟩ | refine ⟨step_nat (by assumption) (by assumption), ?_⟩
   · repeat' first | exact trivial | refine ⟨rfl, ?_⟩ | refine ⟨congrArg some (renL_boxE _ _ _), ?_⟩ | refine ⟨step_nat (by assumption) (by assumption), ?_⟩
   rintro ⟨k, hk, hI⟩
   show W _ _ _ _ _ ⟨[(2, .ptr 0 0), (3, .ptr 1 0), (6, .d (.v (.int .i64 ((k : Nat) : Int))))], [(0, [.d (ci a.op), .d (ci a.n), .d (cs a.s), .d (.sl (a.keys.map sc)), .d (.sl (a.kids.map JV.c))]), (1, [.d (ci b.op), .d (ci b.n), .d (cs b.s), .d (.sl (b.keys.map sc)), .d (.sl (b.kids.map JV.c))])], [], 2⟩
   iterate 2 refine W.seq ?_
   refine W.region ?_
   iterate 2 refine pE rfl ?_
   first | refine pE rfl ?_ | refine pR rfl rfl rfl rfl rfl ?_ | refine pB rfl rfl rfl rfl rfl rfl ?_
   iterate 2 refine pE rfl ?_
   refine WO.nil (qs ?_)
   refine eachR (l := a.kids) (k := k) rfl (by simp [Ex.kc_len, bytes_len]) hk (fun x hx hd hlt => ?_) (fun he hd => ?_)
   ·
    obtain ⟨y, hy, hyd⟩ := exAt (l := b.kids) (k := k) (by omega)
    rw [hd, hyd] at hI
    simp only [eqJs] at hI
    have hxy := ih x (List.mem_of_getElem? hx) y
    refine W.skip (qs (W.seq (W.block (W.seq ?_))))
    refine W.regionD tab (by kernel_rfl) ?_
    refine chPu (ev tab rfl) rfl ?_
    first | refine chPu (ev tab rfl) rfl ?_ | refine chPu (loadRow tab rfl rfl rfl rfl) rfl ?_ | refine chPu (loadBox tab rfl rfl rfl rfl rfl) rfl ?_
    refine chPu (ev tab rfl) rfl ?_
    refine chPu (indexAddr (l := x.c) tab rfl rfl rfl rfl rfl rfl (Int.natCast_nonneg _) (idx_map hx) rfl) rfl ?_
    first | refine chPu (ev tab rfl) rfl ?_ | refine chPu (loadRow tab rfl rfl rfl rfl) rfl ?_ | refine chPu (loadBox tab rfl rfl rfl rfl rfl) rfl ?_
    refine chPu (ev tab rfl) rfl ?_
    first | refine chPu (ev tab rfl) rfl ?_ | refine chPu (loadRow tab rfl rfl rfl rfl) rfl ?_ | refine chPu (loadBox tab rfl rfl rfl rfl rfl) rfl ?_
    refine chPu (ev tab rfl) rfl ?_
    refine chPu (indexAddr (l := y.c) tab rfl rfl rfl rfl rfl rfl (Int.natCast_nonneg _) (idx_map hy) rfl) rfl ?_
    first | refine chPu (ev tab rfl) rfl ?_ | refine chPu (loadRow tab rfl rfl rfl rfl) rfl ?_ | refine chPu (loadBox tab rfl rfl rfl rfl rfl) rfl ?_
    refine chPu (puCall rfl rfl rfl hxy rfl) rfl ?_
    refine chPu (ev tab rfl) rfl ?_
    refine CH.nil ?_
    refine qs ?_
    refine condK rfl (fun h80 => ?_) (fun h80 => ?_)
    ·
     have hn : eqJ x y = false := by simpa using h80
     have hg : eqJ a b = false := by rw [eq5, ← hI, hn]; simp
     refine W.seq (W.region ?_)
     refine pE rfl ?_
     refine WO.nil (qs (W.ret (qbRet (qsRet (qlRet (qbRet (qsRet ?_)))))))
     refine QF.ret0 trivial rfl ?_
     rw [hg]; rfl
    ·
     have hn : eqJ x y = true := by simpa using h80
     rw [hn, Bool.true_and] at hI
     refine W.skip (qbN (qs (W.region ?_)))
     iterate 3 refine pE rfl ?_
     refine WO.nil ?_
     refine W.endR [0, 1] ⟨k + 1, ?_⟩ ?_ rfl ?_ trivial ?_ trivial rfl
     · exact ⟨hlt, hI⟩
     · dsimp only; omega
     · repeat' first | exact trivial | refine ⟨rfl, ?_⟩ | refine ⟨congrArg some (renL_boxE _ _ _), ?_⟩ | refine ⟨step_nat (by assumption) (by assumption), ?_⟩
     · repeat' first | exact trivial | refine ⟨rfl, ?_⟩ | refine ⟨congrArg some (renL_boxE _ _ _), ?_⟩ | refine ⟨step_nat (by assumption) (by assumption), ?_⟩
   ·
    rw [hd, dropEnd (l := b.kids) (by omega)] at hI
    have hg : eqJ a b = true := by rw [eq5, ← hI]; simp [q.1, q.2.1, q.2.2.1, qk, eqJs]
    refine W.exit (qsExit (qlExit (qbExit (qs (W.seq (W.region ?_))))))
    refine pE rfl ?_
    refine WO.nil (qs (W.ret ?_))
    refine QF.ret0 trivial rfl ?_
    rw [hg]; rfl
theorem eqFunc_fn (fid : Nat) (caps : List A) (hc : Still caps) (l m : List JV) (hp : ∀ x ∈ l, ∀ y : JV, Does Tryd.prog fid (.ag x.c :: .ag y.c :: caps) (.d (.v (.bool (eqJ x y)))) 0) :
  Does Tryd.prog 30 [.d (.sl (l.map JV.c)), .d (.sl (m.map JV.c)), .clo fid caps] (.d (.v (.bool (eqJs l m)))) 0 := by
 refine Does.of_W (n := 32) (ts := [6]) Tryd.func30 (by kernel_rfl) rfl Tryd.ntmps30 Tryd.results30 rfl rfl fun C hC hG => ?_
 refine W.seq (W.region ?_)
 refine pE rfl ?_
 refine WO.nil (qs ?_)
 iterate 2 refine W.seq ?_
 refine W.region ?_
 iterate 5 refine pE rfl ?_
 refine WO.nil (qs ?_)
 refine condK rfl (fun h14 => ?_) (fun h14 => ?_)
 ·
  have hg : eqJs l m = false := by
   cases he : eqJs l m with
   | false => rfl
   | true => rw [(eqJs_iff l m).1 he] at h14; simp at h14
  refine W.seq (W.region ?_)
  refine pE rfl ?_
  refine WO.nil (qs (W.ret (qsRet ?_)))
  refine QF.ret0 trivial rfl ?_
  rw [hg]; rfl
 ·
  have hl : l.length = m.length := by simp at h14; omega
  refine W.skip (qs ?_)
  iterate 2 refine W.seq ?_
  refine W.region ?_
  iterate 3 refine pE rfl ?_
  refine WO.nil (qs (W.block ?_))
  refine W.len (t := 0) rfl rfl (fun hlen => ?_)
  try simp only [List.length_map, Ex.kc_len] at hlen
  refine W.loopR (ι := {x : Nat // match x with | k => k ≤ l.length ∧ eqJs (l.drop k) (m.drop k) = eqJs l m})
   (fun x => match x.1 with | k => [(17, .d (.v (.int .i64 ((k : Nat) : Int))))]) [(1, _), (2, _), (15, _), (16, _)]
   (fun x => match x.1 with | k => []) [] [] 0 (fun x => match x.1 with | k => l.length - k)
   [] ⟨0, ?_⟩ rfl ?_ ⟨rfl, (by first | rfl | exact hc.2), rfl, (by first | rfl | exact hc.2), rfl, (by first | rfl | exact hc.2), rfl, (by first | rfl | exact hc.2), trivial⟩ ?_ trivial rfl ?_
  · exact ⟨Nat.zero_le _, by simp⟩
  · repeat' first | exact trivial | refine ⟨rfl, ?_⟩ | refine ⟨congrArg some (renL_boxE _ _ _), ?_⟩ | refine ⟨step_nat (by assumption) (by assumption), ?_⟩
  · repeat' first | exact trivial | refine ⟨rfl, ?_⟩ | refine ⟨congrArg some (renL_boxE _ _ _), ?_⟩ | refine ⟨step_nat (by assumption) (by assumption), ?_⟩
  rintro ⟨k, hk, hI⟩
  show W _ _ _ _ _ ⟨[(17, .d (.v (.int .i64 ((k : Nat) : Int)))), (1, _), (2, _), (15, _), (16, _)], [], [], 0⟩
  refine W.seq (W.region ?_)
  refine pE rfl ?_
  refine WO.nil (qs (W.seq ?_))
  refine eachR (l := l) (k := k) rfl (by simp [Ex.kc_len, bytes_len]) hk (fun x hx hd hlt => ?_) (fun he hd => ?_)
  ·
   obtain ⟨y, hy, hyd⟩ := exAt (l := m) (k := k) (by omega)
   rw [hd, hyd] at hI
   simp only [eqJs] at hI
   have hxy := hp x (List.mem_of_getElem? hx) y
   refine W.skip (qs (W.seq (W.block (W.seq (W.region ?_)))))
   refine pE rfl ?_
   refine pu (indexAddr (l := x.c) tab rfl rfl rfl rfl rfl rfl (Int.natCast_nonneg _) (idx_map hx) rfl) rfl ?_
   first | refine pE rfl ?_ | refine pR rfl rfl rfl rfl rfl ?_ | refine pB rfl rfl rfl rfl rfl rfl ?_
   refine allocR tab rfl rfl rfl ?_
   refine pE rfl ?_
   refine storeR tab rfl rfl rfl rfl rfl rfl rfl rfl ?_
   refine WO.nil (qs (W.seq (W.region ?_)))
   iterate 2 refine pE rfl ?_
   refine pu (indexAddr (l := y.c) tab rfl rfl rfl rfl rfl rfl (Int.natCast_nonneg _) (idx_map hy) rfl) rfl ?_
   first | refine pE rfl ?_ | refine pR rfl rfl rfl rfl rfl ?_ | refine pB rfl rfl rfl rfl rfl rfl ?_
   refine allocR tab rfl rfl rfl ?_
   refine storeR tab rfl rfl rfl rfl rfl rfl rfl rfl ?_
   refine WO.nil (qs (W.seq (W.region ?_)))
   refine pE rfl ?_
   first | refine pE rfl ?_ | refine pR rfl rfl rfl rfl rfl ?_ | refine pB rfl rfl rfl rfl rfl rfl ?_
   first | refine pE rfl ?_ | refine pR rfl rfl rfl rfl rfl ?_ | refine pB rfl rfl rfl rfl rfl rfl ?_
   refine pu (puCall rfl rfl (by rw [List.map_append, hc.1 _ 3]; rfl) hxy rfl) rfl ?_
   refine pE rfl ?_
   refine WO.nil (qs ?_)
   refine condK rfl (fun h30 => ?_) (fun h30 => ?_)
   ·
    have hn : eqJ x y = false := by simpa using h30
    have hg : eqJs l m = false := by rw [← hI, hn]; rfl
    refine W.seq (W.region ?_)
    refine pE rfl ?_
    refine WO.nil (qs (W.ret (qbRet (qsRet (qlRet (qbRet (qsRet ?_)))))))
    refine QF.ret0 trivial rfl ?_
    rw [hg]; rfl
   ·
    have hn : eqJ x y = true := by simpa using h30
    rw [hn, Bool.true_and] at hI
    refine W.skip (qbN (qs (W.region ?_)))
    iterate 2 refine pE rfl ?_
    refine WO.nil ?_
    refine W.endR [] ⟨k + 1, ?_⟩ ?_ rfl ?_ ⟨rfl, (by first | rfl | exact hc.2), rfl, (by first | rfl | exact hc.2), rfl, (by first | rfl | exact hc.2), rfl, (by first | rfl | exact hc.2), trivial⟩ ?_ trivial rfl
    · exact ⟨hlt, hI⟩
    · dsimp only; omega
    · repeat' first | exact trivial | refine ⟨rfl, ?_⟩ | refine ⟨congrArg some (renL_boxE _ _ _), ?_⟩ | refine ⟨step_nat (by assumption) (by assumption), ?_⟩
    · repeat' first | exact trivial | refine ⟨rfl, ?_⟩ | refine ⟨congrArg some (renL_boxE _ _ _), ?_⟩ | refine ⟨step_nat (by assumption) (by assumption), ?_⟩
  ·
   rw [hd, dropEnd (l := m) (by omega)] at hI
   have hg : eqJs l m = true := hI.symm
   refine W.exit (qsExit (qlExit (qbExit (qs (W.seq (W.region ?_))))))
   refine pE rfl ?_
   refine WO.nil (qs (W.ret ?_))
   refine QF.ret0 trivial rfl ?_
   rw [hg]; rfl
theorem pSame_fn : ∀ (a b : JV), Does Tryd.prog 18 [.ag a.c, .ag b.c] (.d (.v (.bool (eqJ a b)))) 0 := by
 refine JV.ind fun a ih => ?_
 intro b
 have h5 := eq5 a b
 rw [jc_map a, jc_map b]
 refine Does.of_W (n := 38) (ts := [4]) Tryd.func18 (by kernel_rfl) rfl Tryd.ntmps18 Tryd.results18 rfl rfl fun C hC hG => ?_
 refine W.seq (W.region ?_)
 refine boxR rfl rfl rfl ?_
 refine boxR rfl rfl rfl ?_
 refine pE rfl ?_
 refine WO.nil (qs (W.seq ?_))
 apply regionB; (case hb => rfl)
 ·
  refine pE rfl ?_
  first | refine pE rfl ?_ | refine pR rfl rfl rfl rfl rfl ?_ | refine pB rfl rfl rfl rfl rfl rfl ?_
  refine pE rfl ?_
  first | refine pE rfl ?_ | refine pR rfl rfl rfl rfl rfl ?_ | refine pB rfl rfl rfl rfl rfl rfl ?_
  iterate 2 refine pE rfl ?_
  apply splitJ; (case hj => rfl); (case hl => rfl)
  ·
   refine goG rfl rfl ?_
   refine pE rfl ?_
   refine goG rfl rfl ?_
   first | refine pE rfl ?_ | refine pR rfl rfl rfl rfl rfl ?_ | refine pB rfl rfl rfl rfl rfl rfl ?_
   refine goG rfl rfl ?_
   refine pE rfl ?_
   refine goG rfl rfl ?_
   first | refine pE rfl ?_ | refine pR rfl rfl rfl rfl rfl ?_ | refine pB rfl rfl rfl rfl rfl rfl ?_
   refine goG rfl rfl ?_
   iterate 3 refine pE rfl ?_
   apply splitJ; (case hj => rfl); (case hl => rfl)
   ·
    refine goG rfl rfl ?_
    refine pE rfl ?_
    refine goG rfl rfl ?_
    first | refine pE rfl ?_ | refine pR rfl rfl rfl rfl rfl ?_ | refine pB rfl rfl rfl rfl rfl rfl ?_
    refine goG rfl rfl ?_
    refine pE rfl ?_
    refine goG rfl rfl ?_
    first | refine pE rfl ?_ | refine pR rfl rfl rfl rfl rfl ?_ | refine pB rfl rfl rfl rfl rfl rfl ?_
    refine goG rfl rfl ?_
    iterate 3 refine pE rfl ?_
    apply splitJ; (case hj => rfl); (case hl => rfl)
    ·
     refine goG rfl rfl ?_
     refine pE rfl ?_
     refine goG rfl rfl ?_
     first | refine pE rfl ?_ | refine pR rfl rfl rfl rfl rfl ?_ | refine pB rfl rfl rfl rfl rfl rfl ?_
     refine goG rfl rfl ?_
     refine pE rfl ?_
     refine goG rfl rfl ?_
     first | refine pE rfl ?_ | refine pR rfl rfl rfl rfl rfl ?_ | refine pB rfl rfl rfl rfl rfl rfl ?_
     refine goG rfl rfl ?_
     refine pu (puCall rfl rfl rfl (equal_fn a.keys b.keys) rfl) rfl ?_
     iterate 2 refine pE rfl ?_
     apply splitJ; (case hj => rfl); (case hl => rfl)
     ·
      refine goG rfl rfl ?_
      refine pE rfl ?_
      refine goG rfl rfl ?_
      first | refine pE rfl ?_ | refine pR rfl rfl rfl rfl rfl ?_ | refine pB rfl rfl rfl rfl rfl rfl ?_
      refine goG rfl rfl ?_
      refine pE rfl ?_
      refine goG rfl rfl ?_
      first | refine pE rfl ?_ | refine pR rfl rfl rfl rfl rfl ?_ | refine pB rfl rfl rfl rfl rfl rfl ?_
      refine goG rfl rfl ?_
      refine pu (puCall rfl rfl rfl (eqFunc_fn _ [] ⟨fun _ _ => rfl, rfl⟩ a.kids b.kids ih) rfl) rfl ?_
      iterate 2 refine pE rfl ?_
      refine WO.nil ?_
      refine qv1 rfl rfl rfl
     ·
      iterate 5 refine skipT rfl rfl rfl rfl ?_
      iterate 2 refine pE rfl ?_
      refine WO.nil ?_
      refine qv1 rfl rfl rfl
    ·
     iterate 5 refine skipT rfl rfl rfl rfl ?_
     iterate 2 refine pE rfl ?_
     iterate 5 refine skipT rfl rfl rfl rfl ?_
     iterate 2 refine pE rfl ?_
     refine WO.nil ?_
     refine qv1 rfl rfl rfl
   ·
    iterate 5 refine skipT rfl rfl rfl rfl ?_
    iterate 2 refine pE rfl ?_
    iterate 5 refine skipT rfl rfl rfl rfl ?_
    iterate 2 refine pE rfl ?_
    iterate 5 refine skipT rfl rfl rfl rfl ?_
    iterate 2 refine pE rfl ?_
    refine WO.nil ?_
    refine qv1 rfl rfl rfl
  ·
   iterate 5 refine skipT rfl rfl rfl rfl ?_
   iterate 2 refine pE rfl ?_
   iterate 5 refine skipT rfl rfl rfl rfl ?_
   iterate 2 refine pE rfl ?_
   iterate 5 refine skipT rfl rfl rfl rfl ?_
   iterate 2 refine pE rfl ?_
   iterate 5 refine skipT rfl rfl rfl rfl ?_
   iterate 2 refine pE rfl ?_
   refine WO.nil ?_
   refine qv1 rfl rfl rfl
 refine qs (W.ret ?_)
 refine QF.ret0 trivial rfl ?_
 simp only [norm, oneA]; rw [h5]; cases decide (a.op = b.op) <;> cases decide (a.n = b.n) <;> cases decide (a.s = b.s) <;> cases decide (a.keys = b.keys) <;> rfl
end Go.Proofs.YtllkpgnpioojjaaDoor
namespace Go.Proofs.YtllkpgnpioojjaaDoor
open Go.Ab Go.Tb
set_option maxRecDepth 10000
attribute [local irreducible] W WO Pu QS QB QL QF QV QV1 CH QE
theorem esc_le (b : UInt8) : (escB b).length ≤ 2 := by unfold escB; split <;> (try split) <;> (try split) <;> simp
theorem esc_len : ∀ l : List UInt8, (l.flatMap escB).length ≤ 2 * l.length
 | [] => by simp
 | b :: l => by
  have h1 := esc_le b
  have h2 := esc_len l
  simp only [List.flatMap_cons, List.length_append, List.length_cons]; omega
theorem cat_bytes (t : ByteArray) (l : List UInt8) : bys (t ++ bytesOf l) = bys t ++ l := by simp [bys, bytesOf]
theorem escT {b : UInt8} (h : (b.toNat : Int) = 34 ∨ (b.toNat : Int) = 92) (t : ByteArray) : t ++ B #[92] ++ bytesOf [b] = t ++ bytesOf (escB b) := by
 have e : b = 34 ∨ b = 92 := by
  rcases h with h | h
  · exact .inl (UInt8.toNat_inj.1 (by show b.toNat = 34; omega))
  · exact .inr (UInt8.toNat_inj.1 (by show b.toNat = 92; omega))
 refine bys_inj ?_
 unfold escB; rw [if_pos e]
 simp [bys, bytesOf]
theorem escN {b : UInt8} (h : (b.toNat : Int) = 10) (t : ByteArray) : t ++ B #[92, 110] = t ++ bytesOf (escB b) := by
 have e : b = 10 := UInt8.toNat_inj.1 (by show b.toNat = 10; omega)
 subst e; rfl
theorem escH {b : UInt8} (h : (b.toNat : Int) = 9) (t : ByteArray) : t ++ B #[92, 116] = t ++ bytesOf (escB b) := by
 have e : b = 9 := UInt8.toNat_inj.1 (by show b.toNat = 9; omega)
 subst e; rfl
theorem escO {b : UInt8} (h1 : ¬ (b.toNat : Int) = 34) (h2 : ¬ (b.toNat : Int) = 92) (h3 : ¬ (b.toNat : Int) = 10) (h4 : ¬ (b.toNat : Int) = 9) : escB b = [b] := by
 unfold escB
 rw [if_neg (by rintro (rfl | rfl) <;> simp at h1 h2), if_neg (by rintro rfl; simp at h3), if_neg (by rintro rfl; simp at h4)]
theorem oneX {s : ByteArray} {k : Nat} {b : UInt8} (h : (bys s)[k]? = some b) : s.extract k (k + 1) = bytesOf [b] := by
 refine bys_inj ?_
 show bys _ = bys _
 rw [Go.Tb.bys_extract, bys_bytesOf, List.take_add_one, h]
 have hl : k < (bys s).length := (List.getElem?_eq_some_iff.1 h).1
 rw [List.drop_append_of_le_length (by simp; omega), List.drop_eq_nil_of_le (by simp; omega)]
 rfl
theorem quoted_fn (s : ByteArray) (hs : s.size ≤ 1000000000000) : Does Tryd.prog 42 [.d (.v (.string s))] (.d (.v (.string (bytesOf (quoteL (bys s)))))) 0 := by
 refine Does.of_W (n := 42) (ts := [2]) Tryd.func42 (by kernel_rfl) rfl Tryd.ntmps42 Tryd.results42 rfl rfl fun C hC hG => ?_
 refine W.seq (W.region ?_)
 refine pE rfl ?_
 refine WO.nil (qs (W.seq (W.region ?_)))
 refine pE rfl ?_
 refine WO.nil (qs ?_)
 iterate 2 refine W.seq ?_
 refine W.region ?_
 refine pE rfl ?_
 refine WO.nil (qs (W.block ?_))
 refine W.inRange (t := 0) rfl (fun hok => ?_)
 have hlen := okc_size hok
 refine W.loopR (ι := {x : Nat × ByteArray // match x with | (k, t) => k ≤ (bys s).length ∧ bys t = 34 :: ((bys s).take k).flatMap escB})
  (fun x => match x.1 with | (k, t) => [(3, .d (.v (.string t))), (4, .d (.v (.int .i64 ((k : Nat) : Int))))]) [(0, _)]
  (fun x => match x.1 with | (k, t) => []) [] [] 0 (fun x => match x.1 with | (k, t) => (bys s).length - k)
  [] ⟨(0, B #[34]), ?_⟩ rfl ?_ ⟨rfl, rfl, trivial⟩ ?_ trivial rfl ?_
 · exact ⟨Nat.zero_le _, by simp [bys]⟩
 · repeat' first | exact trivial | refine ⟨rfl, ?_⟩ | refine ⟨congrArg some (renL_boxE _ _ _), ?_⟩ | refine ⟨step_nat (by assumption) (by assumption), ?_⟩
 · repeat' first | exact trivial | refine ⟨rfl, ?_⟩ | refine ⟨congrArg some (renL_boxE _ _ _), ?_⟩ | refine ⟨step_nat (by assumption) (by assumption), ?_⟩
 rintro ⟨⟨k, t⟩, hk, hI⟩
 show W _ _ _ _ _ ⟨[(3, .d (.v (.string t))), (4, .d (.v (.int .i64 ((k : Nat) : Int)))), (0, _)], [], [], 0⟩
 iterate 2 refine W.seq ?_
 refine W.region ?_
 iterate 4 refine pE rfl ?_
 refine WO.nil (qs ?_)
 refine eachR (l := bys s) (k := k) rfl (by simp [Ex.kc_len, bytes_len]) hk (fun b hx hd hlt => ?_) (fun he hd => ?_)
 ·
  have hN : bys (t ++ bytesOf (escB b)) = 34 :: ((bys s).take (k + 1)).flatMap escB := by rw [cat_bytes, hI, List.take_add_one, hx]; simp
  have hz : t.size ≤ 2000000000001 := by
   rw [← bytes_len, hI]
   have := esc_len ((bys s).take k)
   have := bytes_len s
   simp at *; omega
  have hk1 : k + 1 ≤ s.size := by rw [← bytes_len]; omega
  refine W.skip (qs (W.seq (W.block (W.seq (W.region ?_)))))
  iterate 2 refine pE rfl ?_
  refine pu (indexStr tab rfl rfl rfl rfl (Int.natCast_nonneg _) (byteList (by assumption))) rfl ?_
  refine WO.nil (qs (W.block ?_))
  iterate 2 refine W.seq ?_
  refine W.region ?_
  iterate 2 refine pE rfl ?_
  refine WO.nil (qs ?_)
  refine condK rfl (fun h21 => ?_) (fun h21 => ?_)
  ·
   refine W.skip (qs ?_)
   refine W.condT rfl ?_
   refine W.region ?_
   refine pE rfl ?_
   refine pu (strAdd (p := t) (q := B #[92]) rfl rfl (by rw [show (B #[92]).size = 1 from rfl]; omega)) rfl ?_
   iterate 3 refine pE rfl ?_
   refine pu (puI (ev tab rfl) (y := ((k + 1 : Nat) : Int)) (wrap64 (by omega))) rfl ?_
   refine pu (puS (strPart (l := (k : Int)) (h := ((k + 1 : Nat) : Int)) tab rfl rfl rfl rfl rfl (by omega) (by omega) (by omega)) (oneX hx)) rfl ?_
   refine pu (puS (strAdd (p := t ++ B #[92]) (q := bytesOf [b]) rfl rfl (by rw [size_cat, show (B #[92]).size = 1 from rfl, show (bytesOf [b]).size = 1 from rfl]; omega)) (escT (b := b) (by simp_all) t)) rfl ?_
   refine pE rfl ?_
   refine WO.nil (qbN (qbN (qs (W.region ?_))))
   iterate 3 refine pE rfl ?_
   refine WO.nil ?_
   refine W.endR [] ⟨(k + 1, t ++ bytesOf (escB b)), ?_⟩ ?_ rfl ?_ ⟨rfl, rfl, trivial⟩ ?_ trivial rfl
   · exact ⟨hlt, hN⟩
   · dsimp only; omega
   · repeat' first | exact trivial | refine ⟨rfl, ?_⟩ | refine ⟨congrArg some (renL_boxE _ _ _), ?_⟩ | refine ⟨step_nat (by assumption) (by assumption), ?_⟩
   · repeat' first | exact trivial | refine ⟨rfl, ?_⟩ | refine ⟨congrArg some (renL_boxE _ _ _), ?_⟩ | refine ⟨step_nat (by assumption) (by assumption), ?_⟩
  ·
   refine W.region ?_
   iterate 2 refine pE rfl ?_
   refine WO.nil (qs ?_)
   refine condK rfl (fun h21 => ?_) (fun h21 => ?_)
   ·
    refine W.region ?_
    refine pE rfl ?_
    refine pu (strAdd (p := t) (q := B #[92]) rfl rfl (by rw [show (B #[92]).size = 1 from rfl]; omega)) rfl ?_
    iterate 3 refine pE rfl ?_
    refine pu (puI (ev tab rfl) (y := ((k + 1 : Nat) : Int)) (wrap64 (by omega))) rfl ?_
    refine pu (puS (strPart (l := (k : Int)) (h := ((k + 1 : Nat) : Int)) tab rfl rfl rfl rfl rfl (by omega) (by omega) (by omega)) (oneX hx)) rfl ?_
    refine pu (puS (strAdd (p := t ++ B #[92]) (q := bytesOf [b]) rfl rfl (by rw [size_cat, show (B #[92]).size = 1 from rfl, show (bytesOf [b]).size = 1 from rfl]; omega)) (escT (b := b) (by simp_all) t)) rfl ?_
    refine pE rfl ?_
    refine WO.nil (qbN (qbN (qs (W.region ?_))))
    iterate 3 refine pE rfl ?_
    refine WO.nil ?_
    refine W.endR [] ⟨(k + 1, t ++ bytesOf (escB b)), ?_⟩ ?_ rfl ?_ ⟨rfl, rfl, trivial⟩ ?_ trivial rfl
    · exact ⟨hlt, hN⟩
    · dsimp only; omega
    · repeat' first | exact trivial | refine ⟨rfl, ?_⟩ | refine ⟨congrArg some (renL_boxE _ _ _), ?_⟩ | refine ⟨step_nat (by assumption) (by assumption), ?_⟩
    · repeat' first | exact trivial | refine ⟨rfl, ?_⟩ | refine ⟨congrArg some (renL_boxE _ _ _), ?_⟩ | refine ⟨step_nat (by assumption) (by assumption), ?_⟩
   ·
    refine W.seq (W.region ?_)
    iterate 2 refine pE rfl ?_
    refine WO.nil (qs ?_)
    refine condK rfl (fun h32 => ?_) (fun h32 => ?_)
    ·
     refine W.region ?_
     refine pE rfl ?_
     refine pu (puS (strAdd (p := t) (q := B #[92, 110]) rfl rfl (by rw [show (B #[92, 110]).size = 2 from rfl]; omega)) (escN (b := b) (by simp_all) t)) rfl ?_
     refine pE rfl ?_
     refine WO.nil (qbN (qbN (qs (W.region ?_))))
     iterate 3 refine pE rfl ?_
     refine WO.nil ?_
     refine W.endR [] ⟨(k + 1, t ++ bytesOf (escB b)), ?_⟩ ?_ rfl ?_ ⟨rfl, rfl, trivial⟩ ?_ trivial rfl
     · exact ⟨hlt, hN⟩
     · dsimp only; omega
     · repeat' first | exact trivial | refine ⟨rfl, ?_⟩ | refine ⟨congrArg some (renL_boxE _ _ _), ?_⟩ | refine ⟨step_nat (by assumption) (by assumption), ?_⟩
     · repeat' first | exact trivial | refine ⟨rfl, ?_⟩ | refine ⟨congrArg some (renL_boxE _ _ _), ?_⟩ | refine ⟨step_nat (by assumption) (by assumption), ?_⟩
    ·
     refine W.seq (W.region ?_)
     iterate 2 refine pE rfl ?_
     refine WO.nil (qs ?_)
     refine condK rfl (fun h36 => ?_) (fun h36 => ?_)
     ·
      refine W.region ?_
      refine pE rfl ?_
      refine pu (puS (strAdd (p := t) (q := B #[92, 116]) rfl rfl (by rw [show (B #[92, 116]).size = 2 from rfl]; omega)) (escH (b := b) (by simp_all) t)) rfl ?_
      refine pE rfl ?_
      refine WO.nil (qbN (qbN (qs (W.region ?_))))
      iterate 3 refine pE rfl ?_
      refine WO.nil ?_
      refine W.endR [] ⟨(k + 1, t ++ bytesOf (escB b)), ?_⟩ ?_ rfl ?_ ⟨rfl, rfl, trivial⟩ ?_ trivial rfl
      · exact ⟨hlt, hN⟩
      · dsimp only; omega
      · repeat' first | exact trivial | refine ⟨rfl, ?_⟩ | refine ⟨congrArg some (renL_boxE _ _ _), ?_⟩ | refine ⟨step_nat (by assumption) (by assumption), ?_⟩
      · repeat' first | exact trivial | refine ⟨rfl, ?_⟩ | refine ⟨congrArg some (renL_boxE _ _ _), ?_⟩ | refine ⟨step_nat (by assumption) (by assumption), ?_⟩
     ·
      refine W.region ?_
      iterate 4 refine pE rfl ?_
      refine pu (puI (ev tab rfl) (y := ((k + 1 : Nat) : Int)) (wrap64 (by omega))) rfl ?_
      refine pu (puS (strPart (l := (k : Int)) (h := ((k + 1 : Nat) : Int)) tab rfl rfl rfl rfl rfl (by omega) (by omega) (by omega)) (oneX hx)) rfl ?_
      refine pu (puS (strAdd (p := t) (q := bytesOf [b]) rfl rfl (by rw [show (bytesOf [b]).size = 1 from rfl]; omega)) (congrArg (fun l => t ++ bytesOf l) (escO (b := b) (by simp_all) (by simp_all) (by simp_all) (by simp_all)).symm)) rfl ?_
      refine pE rfl ?_
      refine WO.nil (qbN (qbN (qs (W.region ?_))))
      iterate 3 refine pE rfl ?_
      refine WO.nil ?_
      refine W.endR [] ⟨(k + 1, t ++ bytesOf (escB b)), ?_⟩ ?_ rfl ?_ ⟨rfl, rfl, trivial⟩ ?_ trivial rfl
      · exact ⟨hlt, hN⟩
      · dsimp only; omega
      · repeat' first | exact trivial | refine ⟨rfl, ?_⟩ | refine ⟨congrArg some (renL_boxE _ _ _), ?_⟩ | refine ⟨step_nat (by assumption) (by assumption), ?_⟩
      · repeat' first | exact trivial | refine ⟨rfl, ?_⟩ | refine ⟨congrArg some (renL_boxE _ _ _), ?_⟩ | refine ⟨step_nat (by assumption) (by assumption), ?_⟩
 ·
  have hz : t.size ≤ 2000000000001 := by
   rw [← bytes_len, hI]
   have := esc_len ((bys s).take k)
   have := bytes_len s
   simp at *; omega
  have hfin : t ++ B #[34] = bytesOf (quoteL (bys s)) := by
   refine bys_inj ?_
   show bys _ = bys _
   rw [bys_bytesOf]
   have e : k = (bys s).length := by have := congrArg List.length hd; simp at this; omega
   unfold quoteL
   rw [show bys (t ++ B #[34]) = bys t ++ [34] by simp [bys], hI, e, List.take_length]
   rfl
  refine W.exit (qsExit (qlExit (qbExit (qs (W.seq (W.region ?_))))))
  refine pE rfl ?_
  refine pu (puS (strAdd (p := t) (q := B #[34]) rfl rfl (by rw [show (B #[34]).size = 1 from rfl]; omega)) hfin) rfl ?_
  refine pE rfl ?_
  refine WO.nil (qs (W.ret ?_))
  refine QF.ret0 trivial rfl ?_
  rfl
end Go.Proofs.YtllkpgnpioojjaaDoor
namespace Go.Proofs.YtllkpgnpioojjaaDoor
open Go.Ab Go.Tb
set_option maxRecDepth 10000
attribute [local irreducible] W WO Pu QS QB QL QF QV QV1 CH QE
theorem one_bb (b : UInt8) : (bytesOf [b]).size = 1 ∧ ∀ x, (bytesOf [b]).data[0]? = some x → (x.toNat : Int) = (b.toNat : Int) := ⟨rfl, by intro x hx; cases hx; rfl⟩
theorem catA (t : ByteArray) (a b : List UInt8) : t ++ bytesOf a ++ bytesOf b = t ++ bytesOf (a ++ b) := by
 refine bys_inj ?_
 show bys _ = bys _
 rw [cat_bytes, cat_bytes, cat_bytes, List.append_assoc]
theorem sz_bytes (t : ByteArray) (a : List UInt8) : (t ++ bytesOf a).size = t.size + a.length := by rw [size_cat]; rfl
theorem bbyte_to {u : Bool} {s m r : ByteArray} {c : Int} (e : s ++ m = r) (hm : m.size = 1) (hm0 : ∀ b, m.data[0]? = some b → (b.toNat : Int) = c) (hb : s.size + 1 ≤ 140737488355328) : DoesB Tryd.prog 40 [.ptr 0 0, .d (.v (.int .u8 c))] [[.np 0 tB u, .bf 1 tU s]] 1 (.d (.v .nilIface)) [[.np 0 tB true, .bf 1 tU r]] 1 := e ▸ bbyte_fn u s c m hm hm0 hb
theorem bwrite_to {u : Bool} {s x r : ByteArray} (e : s ++ x = r) (hb : s.size + x.size ≤ 140737488355328) : DoesB Tryd.prog 37 [.ptr 0 0, .d (.v (.string x))] [[.np 0 tB u, .bf 1 tU s]] 1 (.tup [.d (.v (.int .i64 x.size)), .d (.v .nilIface)]) [[.np 0 tB true, .bf 1 tU r]] 1 := e ▸ bwrite_fn u s x hb
theorem quote_fn (u : Bool) (t s : ByteArray) (hz : t.size + 2 * s.size + 2 ≤ 140737488355328) : DoesB Tryd.prog 39 [.ptr 0 0, .d (.v (.string s))] [[.np 0 tB u, .bf 1 tU t]] 1 (.tup []) [[.np 0 tB true, .bf 1 tU (t ++ bytesOf (quoteL (bys s)))]] 1 := by
 refine DoesB.of_V tab (n := 39) (rs := []) Tryd.func39 (by kernel_rfl) rfl Tryd.ntmps39 Tryd.results39 rfl rfl fun C hC hG => ?_
 refine W.seq (W.region ?_)
 refine pE rfl ?_
 refine callB [0] [1] rfl rfl rfl rfl rfl ((bbyte_fn u t 34 (bytesOf [34]) rfl (one_bb 34).2 (by omega))) rfl rfl (by rfl) (by rfl) rfl rfl rfl rfl ?_
 refine WO.nil (qs ?_)
 iterate 2 refine W.seq ?_
 refine W.region ?_
 iterate 3 refine pE rfl ?_
 refine WO.nil (qs (W.block ?_))
 refine W.inRange (t := 1) rfl (fun hok => ?_)
 have hlen := okc_size hok
 refine W.loopR (ι := {x : Nat × ByteArray // match x with | (k, T) => k ≤ (bys s).length ∧ T = t ++ bytesOf (34 :: ((bys s).take k).flatMap escB)})
  (fun x => match x.1 with | (k, T) => [(0, .ptr 0 0), (10, .d (.v (.int .i64 ((k : Nat) : Int))))]) [(1, _), (9, _)]
  (fun x => match x.1 with | (k, T) => [(0, [.np 0 tB true, .bf 1 tU T])]) [] [1] 2 (fun x => match x.1 with | (k, T) => (bys s).length - k)
  [0, 3] ⟨(0, t ++ bytesOf [34]), ?_⟩ rfl ?_ ⟨rfl, rfl, rfl, rfl, trivial⟩ ?_ trivial rfl ?_
 · exact ⟨Nat.zero_le _, by simp⟩
 · repeat' first | exact trivial | refine ⟨rfl, ?_⟩ | refine ⟨congrArg some (renL_boxE _ _ _), ?_⟩ | refine ⟨step_nat (by assumption) (by assumption), ?_⟩
 · repeat' first | exact trivial | refine ⟨rfl, ?_⟩ | refine ⟨congrArg some (renL_boxE _ _ _), ?_⟩ | refine ⟨step_nat (by assumption) (by assumption), ?_⟩
 rintro ⟨⟨k, T⟩, hk, hI⟩
 show W _ _ _ _ _ ⟨[(0, .ptr 0 0), (10, .d (.v (.int .i64 ((k : Nat) : Int)))), (1, _), (9, _)], [(0, [.np 0 tB true, .bf 1 tU T])], [1], 2⟩
 refine W.seq (W.region ?_)
 refine pE rfl ?_
 refine WO.nil (qs (W.seq ?_))
 refine eachR (l := bys s) (k := k) rfl (by simp [Ex.kc_len, bytes_len]) hk (fun b hx hd hlt => ?_) (fun he hd => ?_)
 ·
  have hTs : T.size ≤ t.size + 1 + 2 * k := by
   rw [hI, sz_bytes]
   have := esc_len ((bys s).take k)
   simp at *; omega
  have hk1 : k + 1 ≤ s.size := by rw [← bytes_len]; omega
  have hN : T ++ bytesOf (escB b) = t ++ bytesOf (34 :: ((bys s).take (k + 1)).flatMap escB) := by rw [hI, catA, List.take_add_one, hx]; simp
  refine W.skip (qs (W.seq (W.block (W.seq (W.region ?_)))))
  iterate 2 refine pE rfl ?_
  refine WO.nil (qs (W.seq (W.region ?_)))
  iterate 2 refine pE rfl ?_
  refine pu (indexStr tab rfl rfl rfl rfl (Int.natCast_nonneg _) (byteList (by assumption))) rfl ?_
  refine pE rfl ?_
  refine WO.nil (qs (W.seq (W.region ?_)))
  refine pE rfl ?_
  refine WO.nil (qs (W.block ?_))
  iterate 2 refine W.seq ?_
  refine W.region ?_
  iterate 2 refine pE rfl ?_
  refine WO.nil (qs ?_)
  refine condK rfl (fun h20 => ?_) (fun h20 => ?_)
  ·
   refine W.skip (qs ?_)
   refine W.condT rfl ?_
   refine W.seq (W.region ?_)
   refine pE rfl ?_
   refine callB [0] [1] rfl rfl rfl rfl rfl ((bbyte_fn true T 92 (bytesOf [92]) rfl (one_bb 92).2 (by omega))) rfl rfl (by rfl) (by rfl) rfl rfl rfl rfl ?_
   refine WO.nil (qs (W.region ?_))
   iterate 2 refine pE rfl ?_
   refine callB [0] [3] rfl rfl rfl rfl rfl ((bbyte_to (c := b.toNat) (s := T ++ bytesOf [92]) (m := bytesOf [b]) (escT (b := b) (by simp_all) T) rfl (one_bb b).2 (by rw [sz_bytes]; simp; omega))) rfl rfl (by rfl) (by rfl) rfl rfl rfl rfl ?_
   refine WO.nil (qbN (qbN (qs (W.region ?_))))
   iterate 2 refine pE rfl ?_
   refine WO.nil ?_
   first | (refine W.endR [0, 3] ⟨(k + 1, T ++ bytesOf (escB b)), ?_⟩ ?_ rfl ?_ ⟨rfl, rfl, rfl, rfl, trivial⟩ ?_ trivial rfl) | (refine W.endR [0, 5] ⟨(k + 1, T ++ bytesOf (escB b)), ?_⟩ ?_ rfl ?_ ⟨rfl, rfl, rfl, rfl, trivial⟩ ?_ trivial rfl)
   · exact ⟨hlt, hN⟩
   · dsimp only; omega
   · repeat' first | exact trivial | refine ⟨rfl, ?_⟩ | refine ⟨congrArg some (renL_boxE _ _ _), ?_⟩ | refine ⟨step_nat (by assumption) (by assumption), ?_⟩
   · repeat' first | exact trivial | refine ⟨rfl, ?_⟩ | refine ⟨congrArg some (renL_boxE _ _ _), ?_⟩ | refine ⟨step_nat (by assumption) (by assumption), ?_⟩
  ·
   refine W.region ?_
   iterate 2 refine pE rfl ?_
   refine WO.nil (qs ?_)
   refine condK rfl (fun h20 => ?_) (fun h20 => ?_)
   ·
    refine W.seq (W.region ?_)
    refine pE rfl ?_
    refine callB [0] [1] rfl rfl rfl rfl rfl ((bbyte_fn true T 92 (bytesOf [92]) rfl (one_bb 92).2 (by omega))) rfl rfl (by rfl) (by rfl) rfl rfl rfl rfl ?_
    refine WO.nil (qs (W.region ?_))
    iterate 2 refine pE rfl ?_
    refine callB [0] [3] rfl rfl rfl rfl rfl ((bbyte_to (c := b.toNat) (s := T ++ bytesOf [92]) (m := bytesOf [b]) (escT (b := b) (by simp_all) T) rfl (one_bb b).2 (by rw [sz_bytes]; simp; omega))) rfl rfl (by rfl) (by rfl) rfl rfl rfl rfl ?_
    refine WO.nil (qbN (qbN (qs (W.region ?_))))
    iterate 2 refine pE rfl ?_
    refine WO.nil ?_
    first | (refine W.endR [0, 3] ⟨(k + 1, T ++ bytesOf (escB b)), ?_⟩ ?_ rfl ?_ ⟨rfl, rfl, rfl, rfl, trivial⟩ ?_ trivial rfl) | (refine W.endR [0, 5] ⟨(k + 1, T ++ bytesOf (escB b)), ?_⟩ ?_ rfl ?_ ⟨rfl, rfl, rfl, rfl, trivial⟩ ?_ trivial rfl)
    · exact ⟨hlt, hN⟩
    · dsimp only; omega
    · repeat' first | exact trivial | refine ⟨rfl, ?_⟩ | refine ⟨congrArg some (renL_boxE _ _ _), ?_⟩ | refine ⟨step_nat (by assumption) (by assumption), ?_⟩
    · repeat' first | exact trivial | refine ⟨rfl, ?_⟩ | refine ⟨congrArg some (renL_boxE _ _ _), ?_⟩ | refine ⟨step_nat (by assumption) (by assumption), ?_⟩
   ·
    refine W.seq (W.region ?_)
    iterate 2 refine pE rfl ?_
    refine WO.nil (qs ?_)
    refine condK rfl (fun h28 => ?_) (fun h28 => ?_)
    ·
     refine W.region ?_
     refine pE rfl ?_
     refine callB [0] [1] rfl rfl rfl rfl rfl ((bwrite_to (s := T) (x := bytesOf [92, 110]) (escN (b := b) (by simp_all) T) (by rw [show (bytesOf [92, 110]).size = 2 from rfl]; omega))) rfl rfl (by rfl) (by rfl) rfl rfl rfl rfl ?_
     refine WO.nil (qbN (qbN (qs (W.region ?_))))
     iterate 2 refine pE rfl ?_
     refine WO.nil ?_
     first | (refine W.endR [0, 3] ⟨(k + 1, T ++ bytesOf (escB b)), ?_⟩ ?_ rfl ?_ ⟨rfl, rfl, rfl, rfl, trivial⟩ ?_ trivial rfl) | (refine W.endR [0, 5] ⟨(k + 1, T ++ bytesOf (escB b)), ?_⟩ ?_ rfl ?_ ⟨rfl, rfl, rfl, rfl, trivial⟩ ?_ trivial rfl)
     · exact ⟨hlt, hN⟩
     · dsimp only; omega
     · repeat' first | exact trivial | refine ⟨rfl, ?_⟩ | refine ⟨congrArg some (renL_boxE _ _ _), ?_⟩ | refine ⟨step_nat (by assumption) (by assumption), ?_⟩
     · repeat' first | exact trivial | refine ⟨rfl, ?_⟩ | refine ⟨congrArg some (renL_boxE _ _ _), ?_⟩ | refine ⟨step_nat (by assumption) (by assumption), ?_⟩
    ·
     refine W.seq (W.region ?_)
     iterate 2 refine pE rfl ?_
     refine WO.nil (qs ?_)
     refine condK rfl (fun h32 => ?_) (fun h32 => ?_)
     ·
      refine W.region ?_
      refine pE rfl ?_
      refine callB [0] [1] rfl rfl rfl rfl rfl ((bwrite_to (s := T) (x := bytesOf [92, 116]) (escH (b := b) (by simp_all) T) (by rw [show (bytesOf [92, 116]).size = 2 from rfl]; omega))) rfl rfl (by rfl) (by rfl) rfl rfl rfl rfl ?_
      refine WO.nil (qbN (qbN (qs (W.region ?_))))
      iterate 2 refine pE rfl ?_
      refine WO.nil ?_
      first | (refine W.endR [0, 3] ⟨(k + 1, T ++ bytesOf (escB b)), ?_⟩ ?_ rfl ?_ ⟨rfl, rfl, rfl, rfl, trivial⟩ ?_ trivial rfl) | (refine W.endR [0, 5] ⟨(k + 1, T ++ bytesOf (escB b)), ?_⟩ ?_ rfl ?_ ⟨rfl, rfl, rfl, rfl, trivial⟩ ?_ trivial rfl)
      · exact ⟨hlt, hN⟩
      · dsimp only; omega
      · repeat' first | exact trivial | refine ⟨rfl, ?_⟩ | refine ⟨congrArg some (renL_boxE _ _ _), ?_⟩ | refine ⟨step_nat (by assumption) (by assumption), ?_⟩
      · repeat' first | exact trivial | refine ⟨rfl, ?_⟩ | refine ⟨congrArg some (renL_boxE _ _ _), ?_⟩ | refine ⟨step_nat (by assumption) (by assumption), ?_⟩
     ·
      refine W.region ?_
      iterate 2 refine pE rfl ?_
      refine callB [0] [1] rfl rfl rfl rfl rfl ((bbyte_to (c := b.toNat) (s := T) (m := bytesOf [b]) (congrArg (fun l => T ++ bytesOf l) (escO (b := b) (by simp_all) (by simp_all) (by simp_all) (by simp_all)).symm) rfl (one_bb b).2 (by omega))) rfl rfl (by rfl) (by rfl) rfl rfl rfl rfl ?_
      refine WO.nil (qbN (qbN (qs (W.region ?_))))
      iterate 2 refine pE rfl ?_
      refine WO.nil ?_
      first | (refine W.endR [0, 3] ⟨(k + 1, T ++ bytesOf (escB b)), ?_⟩ ?_ rfl ?_ ⟨rfl, rfl, rfl, rfl, trivial⟩ ?_ trivial rfl) | (refine W.endR [0, 5] ⟨(k + 1, T ++ bytesOf (escB b)), ?_⟩ ?_ rfl ?_ ⟨rfl, rfl, rfl, rfl, trivial⟩ ?_ trivial rfl)
      · exact ⟨hlt, hN⟩
      · dsimp only; omega
      · repeat' first | exact trivial | refine ⟨rfl, ?_⟩ | refine ⟨congrArg some (renL_boxE _ _ _), ?_⟩ | refine ⟨step_nat (by assumption) (by assumption), ?_⟩
      · repeat' first | exact trivial | refine ⟨rfl, ?_⟩ | refine ⟨congrArg some (renL_boxE _ _ _), ?_⟩ | refine ⟨step_nat (by assumption) (by assumption), ?_⟩
 ·
  have e : k = (bys s).length := by have := congrArg List.length hd; simp at this; omega
  have hTs : T.size ≤ t.size + 1 + 2 * k := by
   rw [hI, sz_bytes]
   have := esc_len ((bys s).take k)
   simp at *; omega
  have hk1 : k = s.size := by rw [← bytes_len]; omega
  have hfin : T ++ bytesOf [34] = t ++ bytesOf (quoteL (bys s)) := by rw [hI, catA, e, List.take_length]; rfl
  refine W.exit (qsExit (qlExit (qbExit (qs (W.region ?_)))))
  refine pE rfl ?_
  refine callB [0] [1] rfl rfl rfl rfl rfl ((bbyte_to (c := 34) (s := T) (m := bytesOf [34]) hfin rfl (one_bb 34).2 (by omega))) rfl rfl (by rfl) (by rfl) rfl rfl rfl rfl ?_
  refine WO.nil ?_
  refine QB1.end tab [3] trivial rfl rfl rfl rfl ?_ ?_
  · exact ⟨rfl, trivial⟩
  rfl
end Go.Proofs.YtllkpgnpioojjaaDoor
namespace Go.Proofs.YtllkpgnpioojjaaDoor
open Go.Ab Go.Tb
set_option maxRecDepth 10000
attribute [local irreducible] W WO Pu QS QB QL QF QV QV1 CH QE
theorem esc_ge : ∀ l : List UInt8, l.length ≤ (l.flatMap escB).length
 | [] => by simp
 | b :: l => by
  have h1 : 1 ≤ (escB b).length := by unfold escB; split <;> (try split) <;> (try split) <;> simp
  have h2 := esc_ge l
  simp only [List.flatMap_cons, List.length_append, List.length_cons]; omega
theorem quote_ge (s : ByteArray) : s.size + 2 ≤ (quoteL (bys s)).length := by
 have h := esc_ge (bys s)
 rw [bytes_len] at h
 simp only [quoteL, List.length_cons, List.length_append, List.length_nil]; omega
theorem items_snoc : ∀ (l : List JV) (z : JV) (first : Bool), itemsJ (l ++ [z]) first = itemsJ l first ++ (if first && l.isEmpty then [] else [44]) ++ printJ z
 | [], z, first => by cases first <;> simp [itemsJ]
 | a :: l, z, first => by
  rw [List.cons_append, itemsJ, itemsJ, items_snoc l z false]
  simp
theorem members_snoc : ∀ (ks : List ByteArray) (l : List JV) (s : ByteArray) (z : JV) (first : Bool), ks.length = l.length → membersJ (ks ++ [s]) (l ++ [z]) first = membersJ ks l first ++ (if first && l.isEmpty then [] else [44]) ++ quoteL (bys s) ++ [58] ++ printJ z
 | [], [], s, z, first, _ => by cases first <;> simp [membersJ]
 | a :: ks, b :: l, s, z, first, h => by
  rw [List.cons_append, List.cons_append, membersJ, membersJ, members_snoc ks l s z false (by simpa using h)]
  simp
 | [], _ :: _, _, _, _, h => by simp at h
 | _ :: _, [], _, _, _, h => by simp at h
def listJ (j : JV) (k : Nat) : List UInt8 := if j.op = 6 then membersJ (j.keys.take k) (j.kids.take k) true else itemsJ (j.kids.take k) true
def openJ (j : JV) : UInt8 := if j.op = 6 then 123 else 91
def closeJ (j : JV) : UInt8 := if j.op = 6 then 125 else 93
def sepJ (k : Nat) : List UInt8 := if k = 0 then [] else [44]
def keyJ (j : JV) (k : Nat) : List UInt8 := if j.op = 6 then quoteL (bys (j.keys.getD k (B #[]))) ++ [58] else []
theorem list_zero (j : JV) : listJ j 0 = [] := by unfold listJ; split <;> simp [membersJ, itemsJ]
theorem take_emp {l : List JV} {k : Nat} (h : k < l.length) : (l.take k).isEmpty = decide (k = 0) := by
 rw [Bool.eq_iff_iff]
 simp only [List.isEmpty_iff, decide_eq_true_eq, List.take_eq_nil_iff]
 constructor
 ·
  rintro (h1 | h1)
  · exact h1
  · rw [h1] at h; simp at h
 · exact fun h1 => .inl h1
theorem list_step {j : JV} {k : Nat} {z : JV} (hz : j.kids[k]? = some z) (hl : j.op = 6 → j.keys.length = j.kids.length) : listJ j (k + 1) = listJ j k ++ sepJ k ++ keyJ j k ++ printJ z := by
 have hk : k < j.kids.length := (List.getElem?_eq_some_iff.1 hz).1
 have hs : (if (true && (j.kids.take k).isEmpty) = true then [] else [44]) = sepJ k := by
  rw [take_emp hk]; unfold sepJ; by_cases q : k = 0 <;> simp [q]
 unfold listJ keyJ
 by_cases ho : j.op = 6
 ·
  have hl := hl ho
  have hkk : j.keys[k]? = some (j.keys.getD k (B #[])) := by rw [List.getD_eq_getElem?_getD, List.getElem?_eq_getElem (by omega)]; rfl
  simp only [if_pos ho]
  rw [List.take_add_one, hkk, List.take_add_one, hz]
  show membersJ (_ ++ [_]) (_ ++ [_]) true = _
  rw [members_snoc _ _ _ _ _ (by simp; omega), hs]
  simp only [List.append_assoc]
 ·
  simp only [if_neg ho]
  rw [List.take_add_one, hz]
  show itemsJ (_ ++ [_]) true = _
  rw [items_snoc, hs]
  simp only [List.append_assoc, List.nil_append]
theorem print_obj : ∀ {j : JV}, j.op = 6 → printJ j = 123 :: (membersJ j.keys j.kids true ++ [125])
 | .mk op n s keys kids, h => by
  have h : op = 6 := h
  subst h
  rw [printJ]
  rfl
theorem print_arr : ∀ {j : JV}, j.op ≠ 1 → j.op ≠ 2 → j.op ≠ 3 → j.op ≠ 4 → j.op ≠ 6 → printJ j = 91 :: (itemsJ j.kids true ++ [93])
 | .mk op n s keys kids, h1, h2, h3, h4, h6 => by rw [printJ, if_neg (show ¬ op = 1 from h1), if_neg (show ¬ op = 2 from h2), if_neg (show ¬ op = 3 from h3), if_neg (show ¬ op = 4 from h4), if_neg (show ¬ op = 6 from h6)]; rfl
theorem print_list {j : JV} (h1 : j.op ≠ 1) (h2 : j.op ≠ 2) (h3 : j.op ≠ 3) (h4 : j.op ≠ 4) (hl : j.op = 6 → j.keys.length = j.kids.length) : printJ j = openJ j :: (listJ j j.kids.length ++ [closeJ j]) := by
 unfold openJ listJ closeJ
 by_cases ho : j.op = 6
 · rw [print_obj ho, if_pos ho, if_pos ho, if_pos ho, List.take_length, ← hl ho, List.take_length]
 · rw [print_arr h1 h2 h3 h4 ho, if_neg ho, if_neg ho, if_neg ho, List.take_length]
theorem list_mono {j : JV} (hl : j.op = 6 → j.keys.length = j.kids.length) : ∀ (d k : Nat), k + d = j.kids.length → (listJ j k).length ≤ (listJ j j.kids.length).length
 | 0, k, h => by rw [← h]; simp
 | d + 1, k, h => by
  have hk : k < j.kids.length := by omega
  have h1 := list_step (j := j) (k := k) (z := j.kids[k]) (by simp [hk]) hl
  have h2 := list_mono hl d (k + 1) (by omega)
  rw [h1] at h2
  simp only [List.length_append] at h2; omega
end Go.Proofs.YtllkpgnpioojjaaDoor
namespace Go.Proofs.YtllkpgnpioojjaaDoor
open Go.Ab Go.Tb
set_option maxRecDepth 10000
attribute [local irreducible] W WO Pu QS QB QL QF QV QV1 CH QE
theorem okN {j : JV} {lv : Int} (h : checkJ j lv = 0) : (1 ≤ j.op ∧ j.op ≤ 6) ∧ (j.op = 2 → j.n = 0 ∨ j.n = 1) ∧ (j.op = 3 → inR j.n = true) ∧ (j.op = 6 → j.keys.length = j.kids.length) ∧ (∀ z ∈ j.kids, checkJ z (lv + 1) = 0) := by
 rw [checkJ_eq] at h
 have h0 : nodeJ j lv = 0 := by
  by_cases q : nodeJ j lv = 0
  · exact q
  · rw [if_pos q] at h; exact h
 rw [if_neg (by simp [h0])] at h
 obtain ⟨hf, hn, _⟩ := nodeJ_fields h0
 have hks : ∀ l : List JV, checkJs l (lv + 1) = 0 → ∀ z ∈ l, checkJ z (lv + 1) = 0 := by
  intro l
  induction l with
  | nil => intro _ z hz; cases hz
  | cons a l ih =>
   intro hc z hz
   obtain ⟨h1, h2⟩ := checkJs_cons hc
   rcases List.mem_cons.1 hz with rfl | hz
   · exact h1
   · exact ih h2 z hz
 refine ⟨?_, ?_, ?_, ?_, hks _ h⟩
 ·
  unfold fieldsJ at hf
  by_cases e1 : j.op = 1
  · omega
  ·
   rw [if_neg e1] at hf
   by_cases e2 : j.op = 2 ∨ j.op = 3
   · omega
   ·
    rw [if_neg e2] at hf
    by_cases e4 : j.op = 4
    · omega
    ·
     rw [if_neg e4] at hf
     by_cases e5 : j.op = 5
     · omega
     ·
      rw [if_neg e5] at hf
      by_cases e6 : j.op = 6
      · omega
      · rw [if_neg e6] at hf; cases hf
 ·
  intro e
  by_cases q0 : j.n = 0
  · exact .inl q0
  ·
   by_cases q1 : j.n = 1
   · exact .inr q1
   · exact absurd (.inl ⟨e, q0, q1⟩) hn
 ·
  intro e
  cases hi : inR j.n with
  | true => rfl
  | false => exact absurd (.inr ⟨e, hi⟩) hn
 ·
  intro e
  unfold fieldsJ at hf
  rw [if_neg (by omega), if_neg (by omega), if_neg (by omega), if_neg (by omega), if_pos e] at hf
  simp only [Bool.and_eq_true, decide_eq_true_eq] at hf
  exact hf.2.2
theorem print1 : ∀ {j : JV}, j.op = 1 → printJ j = nullL
 | .mk op n s keys kids, h => by have h : op = 1 := h; subst h; rw [printJ]; rfl
theorem print2 : ∀ {j : JV}, j.op = 2 → printJ j = if j.n = 1 then trueL else falseL
 | .mk op n s keys kids, h => by have h : op = 2 := h; subst h; rw [printJ]; rfl
theorem print3 : ∀ {j : JV}, j.op = 3 → printJ j = bys (numB j.n)
 | .mk op n s keys kids, h => by have h : op = 3 := h; subst h; rw [printJ]; rfl
theorem print4 : ∀ {j : JV}, j.op = 4 → printJ j = quoteL (bys j.s)
 | .mk op n s keys kids, h => by have h : op = 4 := h; subst h; rw [printJ]; rfl
theorem i64_of {n : Int} (h : inR n = true) : -9223372036854775808 ≤ n ∧ n ≤ 9223372036854775807 := by unfold inR at h; simp only [Bool.and_eq_true, decide_eq_true_eq] at h; omega
theorem key_at {j : JV} {k : Nat} (ho : j.op = 6) (hl : j.keys.length = j.kids.length) (hk : k < j.kids.length) : ∃ s, j.keys[k]? = some s ∧ keyJ j k = quoteL (bys s) ++ [58] := by
 refine ⟨j.keys[k], by rw [List.getElem?_eq_getElem], ?_⟩
 unfold keyJ
 rw [if_pos ho, List.getD_eq_getElem?_getD, List.getElem?_eq_getElem (by omega)]
 rfl
theorem list_part {j : JV} {k : Nat} {z : JV} (hz : j.kids[k]? = some z) (hl : j.op = 6 → j.keys.length = j.kids.length) : (listJ j k).length + (sepJ k).length + (keyJ j k).length + (printJ z).length ≤ (listJ j j.kids.length).length := by
 have hk : k < j.kids.length := (List.getElem?_eq_some_iff.1 hz).1
 have h := list_mono hl (j.kids.length - (k + 1)) (k + 1) (by omega)
 rw [list_step hz hl] at h
 simp only [List.length_append] at h
 omega
theorem rprint_obj (j : JV) (ih : ∀ z ∈ j.kids, (printJ z).length ≤ 1000000000000 → Does Tryd.prog 25 [.ag z.c] (.d (.v (.string (bytesOf (printJ z))))) 0) (hop : 1 ≤ j.op ∧ j.op ≤ 6) (hnum : j.op = 3 → inR j.n = true) (hlen6 : j.op = 6 → j.keys.length = j.kids.length) (hz : (printJ j).length ≤ 1000000000000) (ho : j.op = 6) :
  Does Tryd.prog 25 [.ag j.c] (.d (.v (.string (bytesOf (printJ j))))) 0 := by
 have hzs : j.op = 4 → j.s.size ≤ 1000000000000 := by intro e; have := quote_ge j.s; rw [print4 e] at hz; omega
 have hO : openJ j = 123 := if_pos ho
 have hC' : closeJ j = 125 := if_pos ho
 rw [jc_map j]
 refine Does.of_W (n := 64) (ts := [2]) Tryd.func25 (by kernel_rfl) rfl Tryd.ntmps25 Tryd.results25 rfl rfl fun C hC hG => ?_
 refine W.seq (W.region ?_)
 refine boxR rfl rfl rfl ?_
 refine pE rfl ?_
 refine WO.nil (qs ?_)
 iterate 2 refine W.seq ?_
 refine W.region ?_
 refine pE rfl ?_
 first | refine pE rfl ?_ | refine pR rfl rfl rfl rfl rfl ?_ | refine pB rfl rfl rfl rfl rfl rfl ?_
 refine WO.nil (qs (W.block (W.seq (W.region ?_))))
 iterate 2 refine pE rfl ?_
 refine WO.nil (qs ?_)
 refine condK rfl (fun h9 => ?_) (fun h9 => ?_)
 ·
  exfalso; simp at h9; omega
 ·
  refine W.seq (W.region ?_)
  iterate 2 refine pE rfl ?_
  refine WO.nil (qs ?_)
  refine condK rfl (fun h11 => ?_) (fun h11 => ?_)
  ·
   exfalso; simp at h11; omega
  ·
   refine W.seq (W.region ?_)
   iterate 2 refine pE rfl ?_
   refine WO.nil (qs ?_)
   refine condK rfl (fun h16 => ?_) (fun h16 => ?_)
   ·
    exfalso; simp at h16; omega
   ·
    refine W.seq (W.region ?_)
    iterate 2 refine pE rfl ?_
    refine WO.nil (qs ?_)
    refine condK rfl (fun h21 => ?_) (fun h21 => ?_)
    ·
     exfalso; simp at h21; omega
    ·
     have hg := print_list (j := j) (by omega) (by omega) (by omega) (by omega) hlen6
     refine W.skip (qbN (qs (W.seq (W.region ?_))))
     iterate 2 refine pE rfl ?_
     refine WO.nil (qs ?_)
     iterate 2 refine W.seq ?_
     refine W.region ?_
     refine pE rfl ?_
     first | refine pE rfl ?_ | refine pR rfl rfl rfl rfl rfl ?_ | refine pB rfl rfl rfl rfl rfl rfl ?_
     refine pE rfl ?_
     refine WO.nil (qs ?_)
     refine condK rfl (fun h28 => ?_) (fun h28 => ?_)
     ·
      refine W.region ?_
      iterate 2 refine pE rfl ?_
      refine WO.nil (qs (W.seq (W.region ?_)))
      iterate 2 refine pE rfl ?_
      refine WO.nil (qs ?_)
      iterate 2 refine W.seq ?_
      refine W.region ?_
      refine pE rfl ?_
      refine WO.nil (qs (W.block ?_))
      refine lenBox (g := 0) (j := 4) rfl rfl (fun hlen => ?_)
      rw [List.length_map] at hlen
      refine W.loopR (ι := {x : Nat × ByteArray // match x with | (k, t) => k ≤ j.kids.length ∧ t = bytesOf (openJ j :: listJ j k)})
       (fun x => match x.1 with | (k, t) => [(1, .ptr 0 0), (4, .d (.v (.string (B #[125])))), (5, .d (.v (.string t))), (6, .d (.v (.int .i64 ((k : Nat) : Int))))]) []
       (fun x => match x.1 with | (k, t) => [(0, [.d (ci j.op), .d (ci j.n), .d (cs j.s), .d (.sl (j.keys.map sc)), .d (.sl (j.kids.map JV.c))])]) [] [] 1 (fun x => match x.1 with | (k, t) => j.kids.length - k)
       [0] ⟨(0, B #[123]), ?_⟩ rfl ?_ trivial ?_ trivial rfl ?_
      · exact ⟨Nat.zero_le _, by rw [list_zero, hO]; rfl⟩
      · repeat' first | exact trivial | refine ⟨rfl, ?_⟩ | refine ⟨congrArg some (renL_boxE _ _ _), ?_⟩ | refine ⟨step_nat (by assumption) (by assumption), ?_⟩
      · repeat' first | exact trivial | refine ⟨rfl, ?_⟩ | refine ⟨congrArg some (renL_boxE _ _ _), ?_⟩ | refine ⟨step_nat (by assumption) (by assumption), ?_⟩
      rintro ⟨⟨k, t⟩, hk, hI⟩
      show W _ _ _ _ _ ⟨[(1, .ptr 0 0), (4, .d (.v (.string (B #[125])))), (5, .d (.v (.string t))), (6, .d (.v (.int .i64 ((k : Nat) : Int))))], [(0, [.d (ci j.op), .d (ci j.n), .d (cs j.s), .d (.sl (j.keys.map sc)), .d (.sl (j.kids.map JV.c))])], [], 1⟩
      iterate 2 refine W.seq ?_
      refine W.region ?_
      iterate 2 refine pE rfl ?_
      first | refine pE rfl ?_ | refine pR rfl rfl rfl rfl rfl ?_ | refine pB rfl rfl rfl rfl rfl rfl ?_
      iterate 2 refine pE rfl ?_
      refine WO.nil (qs ?_)
      refine eachR (l := j.kids) (k := k) rfl (by simp [Ex.kc_len, bytes_len]) hk (fun z hx hd hlt => ?_) (fun he hd => ?_)
      ·
       have hp := list_part hx hlen6
       have hst := list_step hx hlen6
       have hkl : k < j.kids.length := hlt
       rw [hg] at hz
       simp only [List.length_cons, List.length_append, List.length_nil] at hz
       have hts : t.size = (listJ j k).length + 1 := by rw [hI]; rfl
       have hxc := ih z (List.mem_of_getElem? hx) (by omega)
       have hN : t ++ bytesOf (sepJ k) ++ bytesOf (keyJ j k) ++ bytesOf (printJ z) = bytesOf (openJ j :: listJ j (k + 1)) := by
        refine bys_inj ?_
        show bys _ = bys _
        rw [cat_bytes, cat_bytes, cat_bytes, hst, bys_bytesOf, hI, bys_bytesOf]; simp only [List.append_assoc, List.cons_append]
       obtain ⟨s, hks, hkq⟩ := key_at ho (hlen6 ho) hkl
       have hkl2 : (keyJ j k).length = (quoteL (bys s)).length + 1 := by rw [hkq]; simp
       have hsz : s.size ≤ 1000000000000 := by have := quote_ge s; omega
       have hs1 : (t ++ bytesOf (sepJ k)).size + (bytesOf (quoteL (bys s))).size ≤ 9223372036854775807 := by rw [sz_bytes, show (bytesOf (quoteL (bys s))).size = (quoteL (bys s)).length from rfl]; omega
       have hs1' : t.size + (bytesOf (quoteL (bys s))).size ≤ 9223372036854775807 := by rw [show (bytesOf (quoteL (bys s))).size = (quoteL (bys s)).length from rfl]; omega
       have hs2 : (t ++ bytesOf (sepJ k) ++ bytesOf (quoteL (bys s))).size + (B #[58]).size ≤ 9223372036854775807 := by rw [sz_bytes, sz_bytes, show (B #[58]).size = 1 from rfl]; omega
       have hs3 : (t ++ bytesOf (sepJ k) ++ bytesOf (keyJ j k)).size + (bytesOf (printJ z)).size ≤ 9223372036854775807 := by rw [sz_bytes, sz_bytes, show (bytesOf (printJ z)).size = (printJ z).length from rfl]; omega
       refine W.skip (qs (W.seq (W.block ?_)))
       iterate 2 refine W.seq ?_
       refine W.region ?_
       iterate 2 refine pE rfl ?_
       refine WO.nil (qs ?_)
       refine condK rfl (fun h38 => ?_) (fun h38 => ?_)
       ·
        have hs4 : bytesOf (sepJ k) = B #[44] := by unfold sepJ; rw [if_neg (by simp at h38; omega)]; rfl
        refine W.region ?_
        refine pE rfl ?_
        refine pu (puS (strAdd (p := t) (q := B #[44]) rfl rfl (by rw [show (B #[44]).size = 1 from rfl]; omega)) (show _ = t ++ bytesOf (sepJ k) from by rw [hs4])) rfl ?_
        refine pE rfl ?_
        refine WO.nil (qs ?_)
        iterate 2 refine W.seq ?_
        refine W.region ?_
        refine pE rfl ?_
        first | refine pE rfl ?_ | refine pR rfl rfl rfl rfl rfl ?_ | refine pB rfl rfl rfl rfl rfl rfl ?_
        refine pE rfl ?_
        refine WO.nil (qs ?_)
        refine condK rfl (fun h43 => ?_) (fun h43 => ?_)
        ·
         refine W.region ?_
         iterate 2 refine pE rfl ?_
         first | refine pE rfl ?_ | refine pR rfl rfl rfl rfl rfl ?_ | refine pB rfl rfl rfl rfl rfl rfl ?_
         refine pE rfl ?_
         refine pu (indexAddr (l := sc s) tab rfl rfl rfl rfl rfl rfl (Int.natCast_nonneg _) (idx_map hks) rfl) rfl ?_
         first | refine pE rfl ?_ | refine pR rfl rfl rfl rfl rfl ?_ | refine pB rfl rfl rfl rfl rfl rfl ?_
         refine pu (puCall rfl rfl rfl (quoted_fn s hsz) rfl) rfl ?_
         refine pu (puS (strAdd rfl rfl (by first | exact hs1 | exact hs1')) (show _ = t ++ bytesOf (sepJ k) ++ bytesOf (quoteL (bys s)) from by first | rfl | rw [hs])) rfl ?_
         refine pu (puS (strAdd (p := t ++ bytesOf (sepJ k) ++ bytesOf (quoteL (bys s))) (q := B #[58]) rfl rfl hs2) (show _ = t ++ bytesOf (sepJ k) ++ bytesOf (keyJ j k) from by rw [hkq, ← catA]; rfl)) rfl ?_
         refine pE rfl ?_
         refine WO.nil (qs (W.region ?_))
         iterate 2 refine pE rfl ?_
         first | refine pE rfl ?_ | refine pR rfl rfl rfl rfl rfl ?_ | refine pB rfl rfl rfl rfl rfl rfl ?_
         refine pE rfl ?_
         refine pu (indexAddr (l := z.c) tab rfl rfl rfl rfl rfl rfl (Int.natCast_nonneg _) (idx_map hx) rfl) rfl ?_
         first | refine pE rfl ?_ | refine pR rfl rfl rfl rfl rfl ?_ | refine pB rfl rfl rfl rfl rfl rfl ?_
         refine pu (puCall rfl rfl rfl hxc rfl) rfl ?_
         refine pu (strAdd (p := t ++ bytesOf (sepJ k) ++ bytesOf (keyJ j k)) (q := bytesOf (printJ z)) rfl rfl hs3) rfl ?_
         refine pE rfl ?_
         refine WO.nil (qbN (qs (W.region ?_)))
         iterate 3 refine pE rfl ?_
         refine WO.nil ?_
         refine W.endR [0] ⟨(k + 1, t ++ bytesOf (sepJ k) ++ bytesOf (keyJ j k) ++ bytesOf (printJ z)), ?_⟩ ?_ rfl ?_ trivial ?_ trivial rfl
         · exact ⟨hlt, by rw [← hN]⟩
         · dsimp only; omega
         · repeat' first | exact trivial | refine ⟨rfl, ?_⟩ | refine ⟨congrArg some (renL_boxE _ _ _), ?_⟩ | refine ⟨step_nat (by assumption) (by assumption), ?_⟩
         · repeat' first | exact trivial | refine ⟨rfl, ?_⟩ | refine ⟨congrArg some (renL_boxE _ _ _), ?_⟩ | refine ⟨step_nat (by assumption) (by assumption), ?_⟩
        ·
         exfalso; simp at h43; omega
       ·
        have hs : t ++ bytesOf (sepJ k) = t := by
         unfold sepJ; rw [if_pos (by simp at h38; omega)]
         exact bys_inj (by show bys _ = bys _; rw [cat_bytes]; simp)
        refine W.skip (qs ?_)
        iterate 2 refine W.seq ?_
        refine W.region ?_
        refine pE rfl ?_
        first | refine pE rfl ?_ | refine pR rfl rfl rfl rfl rfl ?_ | refine pB rfl rfl rfl rfl rfl rfl ?_
        refine pE rfl ?_
        refine WO.nil (qs ?_)
        refine condK rfl (fun h43 => ?_) (fun h43 => ?_)
        ·
         refine W.region ?_
         iterate 2 refine pE rfl ?_
         first | refine pE rfl ?_ | refine pR rfl rfl rfl rfl rfl ?_ | refine pB rfl rfl rfl rfl rfl rfl ?_
         refine pE rfl ?_
         refine pu (indexAddr (l := sc s) tab rfl rfl rfl rfl rfl rfl (Int.natCast_nonneg _) (idx_map hks) rfl) rfl ?_
         first | refine pE rfl ?_ | refine pR rfl rfl rfl rfl rfl ?_ | refine pB rfl rfl rfl rfl rfl rfl ?_
         refine pu (puCall rfl rfl rfl (quoted_fn s hsz) rfl) rfl ?_
         refine pu (puS (strAdd rfl rfl (by first | exact hs1 | exact hs1')) (show _ = t ++ bytesOf (sepJ k) ++ bytesOf (quoteL (bys s)) from by first | rfl | rw [hs])) rfl ?_
         refine pu (puS (strAdd (p := t ++ bytesOf (sepJ k) ++ bytesOf (quoteL (bys s))) (q := B #[58]) rfl rfl hs2) (show _ = t ++ bytesOf (sepJ k) ++ bytesOf (keyJ j k) from by rw [hkq, ← catA]; rfl)) rfl ?_
         refine pE rfl ?_
         refine WO.nil (qs (W.region ?_))
         iterate 2 refine pE rfl ?_
         first | refine pE rfl ?_ | refine pR rfl rfl rfl rfl rfl ?_ | refine pB rfl rfl rfl rfl rfl rfl ?_
         refine pE rfl ?_
         refine pu (indexAddr (l := z.c) tab rfl rfl rfl rfl rfl rfl (Int.natCast_nonneg _) (idx_map hx) rfl) rfl ?_
         first | refine pE rfl ?_ | refine pR rfl rfl rfl rfl rfl ?_ | refine pB rfl rfl rfl rfl rfl rfl ?_
         refine pu (puCall rfl rfl rfl hxc rfl) rfl ?_
         refine pu (strAdd (p := t ++ bytesOf (sepJ k) ++ bytesOf (keyJ j k)) (q := bytesOf (printJ z)) rfl rfl hs3) rfl ?_
         refine pE rfl ?_
         refine WO.nil (qbN (qs (W.region ?_)))
         iterate 3 refine pE rfl ?_
         refine WO.nil ?_
         refine W.endR [0] ⟨(k + 1, t ++ bytesOf (sepJ k) ++ bytesOf (keyJ j k) ++ bytesOf (printJ z)), ?_⟩ ?_ rfl ?_ trivial ?_ trivial rfl
         · exact ⟨hlt, by rw [← hN]⟩
         · dsimp only; omega
         · repeat' first | exact trivial | refine ⟨rfl, ?_⟩ | refine ⟨congrArg some (renL_boxE _ _ _), ?_⟩ | refine ⟨step_nat (by assumption) (by assumption), ?_⟩
         · repeat' first | exact trivial | refine ⟨rfl, ?_⟩ | refine ⟨congrArg some (renL_boxE _ _ _), ?_⟩ | refine ⟨step_nat (by assumption) (by assumption), ?_⟩
        ·
         exfalso; simp at h43; omega
      ·
       have e : k = j.kids.length := by have := congrArg List.length hd; simp at this; omega
       have hts : t.size = (listJ j k).length + 1 := by rw [hI]; rfl
       have hfin : t ++ B #[125] = bytesOf (printJ j) := by
        rw [hI, hg, hC']
        refine bys_inj ?_
        show bys _ = bys _
        rw [show (B #[125]) = bytesOf [125] from rfl, cat_bytes, bys_bytesOf, bys_bytesOf, e]; rfl
       rw [hg] at hz
       simp only [List.length_cons, List.length_append, List.length_nil] at hz
       rw [← e] at hz
       refine W.exit (qsExit (qlExit (qbExit (qs (W.seq (W.region ?_))))))
       iterate 2 refine pE rfl ?_
       refine pu (puS (strAdd (p := t) (q := B #[125]) rfl rfl (by rw [show (B #[125]).size = 1 from rfl]; omega)) hfin) rfl ?_
       refine pE rfl ?_
       refine WO.nil (qs (W.ret ?_))
       refine QF.ret0 trivial rfl ?_
       first | rfl | (rw [hg]; rfl) | (rw [hg, bytesOf_bys]; rfl)
     ·
      exfalso; simp at h28; omega
theorem rprint_arr (j : JV) (ih : ∀ z ∈ j.kids, (printJ z).length ≤ 1000000000000 → Does Tryd.prog 25 [.ag z.c] (.d (.v (.string (bytesOf (printJ z))))) 0) (hop : 1 ≤ j.op ∧ j.op ≤ 6) (hnum : j.op = 3 → inR j.n = true) (hlen6 : j.op = 6 → j.keys.length = j.kids.length) (hz : (printJ j).length ≤ 1000000000000) (ho : ¬ j.op = 6) :
  Does Tryd.prog 25 [.ag j.c] (.d (.v (.string (bytesOf (printJ j))))) 0 := by
 have hzs : j.op = 4 → j.s.size ≤ 1000000000000 := by intro e; have := quote_ge j.s; rw [print4 e] at hz; omega
 have hO : openJ j = 91 := if_neg ho
 have hC' : closeJ j = 93 := if_neg ho
 rw [jc_map j]
 refine Does.of_W (n := 64) (ts := [2]) Tryd.func25 (by kernel_rfl) rfl Tryd.ntmps25 Tryd.results25 rfl rfl fun C hC hG => ?_
 refine W.seq (W.region ?_)
 refine boxR rfl rfl rfl ?_
 refine pE rfl ?_
 refine WO.nil (qs ?_)
 iterate 2 refine W.seq ?_
 refine W.region ?_
 refine pE rfl ?_
 first | refine pE rfl ?_ | refine pR rfl rfl rfl rfl rfl ?_ | refine pB rfl rfl rfl rfl rfl rfl ?_
 refine WO.nil (qs (W.block (W.seq (W.region ?_))))
 iterate 2 refine pE rfl ?_
 refine WO.nil (qs ?_)
 refine condK rfl (fun h9 => ?_) (fun h9 => ?_)
 ·
  have e : j.op = 1 := by simpa using h9
  have hg := print1 e
  refine W.seq (W.region ?_)
  refine pE rfl ?_
  refine WO.nil (qs (W.ret (qbRet (qsRet ?_))))
  refine QF.ret0 trivial rfl ?_
  first | rfl | (rw [hg]; rfl) | (rw [hg, bytesOf_bys]; rfl)
 ·
  have e1 : j.op ≠ 1 := by simpa using h9
  refine W.seq (W.region ?_)
  iterate 2 refine pE rfl ?_
  refine WO.nil (qs ?_)
  refine condK rfl (fun h11 => ?_) (fun h11 => ?_)
  ·
   have e : j.op = 2 := by simpa using h11
   iterate 2 refine W.seq ?_
   refine W.region ?_
   refine pE rfl ?_
   first | refine pE rfl ?_ | refine pR rfl rfl rfl rfl rfl ?_ | refine pB rfl rfl rfl rfl rfl rfl ?_
   refine pE rfl ?_
   refine WO.nil (qs ?_)
   refine condK rfl (fun h15 => ?_) (fun h15 => ?_)
   ·
    have hg := print2 e
    rw [if_pos (by simpa using h15)] at hg
    refine W.seq (W.region ?_)
    refine pE rfl ?_
    refine WO.nil (qs (W.ret (qsRet (qbRet (qsRet ?_)))))
    refine QF.ret0 trivial rfl ?_
    first | rfl | (rw [hg]; rfl) | (rw [hg, bytesOf_bys]; rfl)
   ·
    have hg := print2 e
    rw [if_neg (by simpa using h15)] at hg
    refine W.skip (qs (W.seq (W.region ?_)))
    refine pE rfl ?_
    refine WO.nil (qs (W.ret (qbRet (qsRet ?_))))
    refine QF.ret0 trivial rfl ?_
    first | rfl | (rw [hg]; rfl) | (rw [hg, bytesOf_bys]; rfl)
  ·
   have e2 : j.op ≠ 2 := by simpa using h11
   refine W.seq (W.region ?_)
   iterate 2 refine pE rfl ?_
   refine WO.nil (qs ?_)
   refine condK rfl (fun h16 => ?_) (fun h16 => ?_)
   ·
    have e : j.op = 3 := by simpa using h16
    have hg := print3 e
    have hi := i64_of (hnum e)
    refine W.seq (W.region ?_)
    refine pE rfl ?_
    first | refine pE rfl ?_ | refine pR rfl rfl rfl rfl rfl ?_ | refine pB rfl rfl rfl rfl rfl rfl ?_
    refine pu (puCall rfl rfl rfl (rtext_fn _ j.n (Nat.lt_succ_self _) hi.1 hi.2) rfl) rfl ?_
    refine pE rfl ?_
    refine WO.nil (qs (W.ret (qbRet (qsRet ?_))))
    refine QF.ret0 trivial rfl ?_
    first | rfl | (rw [hg]; rfl) | (rw [hg, bytesOf_bys]; rfl)
   ·
    have e3 : j.op ≠ 3 := by simpa using h16
    refine W.seq (W.region ?_)
    iterate 2 refine pE rfl ?_
    refine WO.nil (qs ?_)
    refine condK rfl (fun h21 => ?_) (fun h21 => ?_)
    ·
     have e : j.op = 4 := by simpa using h21
     have hg := print4 e
     refine W.seq (W.region ?_)
     refine pE rfl ?_
     first | refine pE rfl ?_ | refine pR rfl rfl rfl rfl rfl ?_ | refine pB rfl rfl rfl rfl rfl rfl ?_
     refine pu (puCall rfl rfl rfl (quoted_fn j.s (hzs e)) rfl) rfl ?_
     refine pE rfl ?_
     refine WO.nil (qs (W.ret (qbRet (qsRet ?_))))
     refine QF.ret0 trivial rfl ?_
     first | rfl | (rw [hg]; rfl) | (rw [hg, bytesOf_bys]; rfl)
    ·
     have e4 : j.op ≠ 4 := by simpa using h21
     have hg := print_list e1 e2 e3 e4 hlen6
     refine W.skip (qbN (qs (W.seq (W.region ?_))))
     iterate 2 refine pE rfl ?_
     refine WO.nil (qs ?_)
     iterate 2 refine W.seq ?_
     refine W.region ?_
     refine pE rfl ?_
     first | refine pE rfl ?_ | refine pR rfl rfl rfl rfl rfl ?_ | refine pB rfl rfl rfl rfl rfl rfl ?_
     refine pE rfl ?_
     refine WO.nil (qs ?_)
     refine condK rfl (fun h28 => ?_) (fun h28 => ?_)
     ·
      exfalso; simp at h28; omega
     ·
      refine W.skip (qs (W.seq (W.region ?_)))
      iterate 2 refine pE rfl ?_
      refine WO.nil (qs ?_)
      iterate 2 refine W.seq ?_
      refine W.region ?_
      refine pE rfl ?_
      refine WO.nil (qs (W.block ?_))
      refine lenBox (g := 0) (j := 4) rfl rfl (fun hlen => ?_)
      rw [List.length_map] at hlen
      refine W.loopR (ι := {x : Nat × ByteArray // match x with | (k, t) => k ≤ j.kids.length ∧ t = bytesOf (openJ j :: listJ j k)})
       (fun x => match x.1 with | (k, t) => [(1, .ptr 0 0), (4, .d (.v (.string (B #[93])))), (5, .d (.v (.string t))), (6, .d (.v (.int .i64 ((k : Nat) : Int))))]) []
       (fun x => match x.1 with | (k, t) => [(0, [.d (ci j.op), .d (ci j.n), .d (cs j.s), .d (.sl (j.keys.map sc)), .d (.sl (j.kids.map JV.c))])]) [] [] 1 (fun x => match x.1 with | (k, t) => j.kids.length - k)
       [0] ⟨(0, B #[91]), ?_⟩ rfl ?_ trivial ?_ trivial rfl ?_
      · exact ⟨Nat.zero_le _, by rw [list_zero, hO]; rfl⟩
      · repeat' first | exact trivial | refine ⟨rfl, ?_⟩ | refine ⟨congrArg some (renL_boxE _ _ _), ?_⟩ | refine ⟨step_nat (by assumption) (by assumption), ?_⟩
      · repeat' first | exact trivial | refine ⟨rfl, ?_⟩ | refine ⟨congrArg some (renL_boxE _ _ _), ?_⟩ | refine ⟨step_nat (by assumption) (by assumption), ?_⟩
      rintro ⟨⟨k, t⟩, hk, hI⟩
      show W _ _ _ _ _ ⟨[(1, .ptr 0 0), (4, .d (.v (.string (B #[93])))), (5, .d (.v (.string t))), (6, .d (.v (.int .i64 ((k : Nat) : Int))))], [(0, [.d (ci j.op), .d (ci j.n), .d (cs j.s), .d (.sl (j.keys.map sc)), .d (.sl (j.kids.map JV.c))])], [], 1⟩
      iterate 2 refine W.seq ?_
      refine W.region ?_
      iterate 2 refine pE rfl ?_
      first | refine pE rfl ?_ | refine pR rfl rfl rfl rfl rfl ?_ | refine pB rfl rfl rfl rfl rfl rfl ?_
      iterate 2 refine pE rfl ?_
      refine WO.nil (qs ?_)
      refine eachR (l := j.kids) (k := k) rfl (by simp [Ex.kc_len, bytes_len]) hk (fun z hx hd hlt => ?_) (fun he hd => ?_)
      ·
       have hp := list_part hx hlen6
       have hst := list_step hx hlen6
       have hkl : k < j.kids.length := hlt
       rw [hg] at hz
       simp only [List.length_cons, List.length_append, List.length_nil] at hz
       have hts : t.size = (listJ j k).length + 1 := by rw [hI]; rfl
       have hxc := ih z (List.mem_of_getElem? hx) (by omega)
       have hN : t ++ bytesOf (sepJ k) ++ bytesOf (keyJ j k) ++ bytesOf (printJ z) = bytesOf (openJ j :: listJ j (k + 1)) := by
        refine bys_inj ?_
        show bys _ = bys _
        rw [cat_bytes, cat_bytes, cat_bytes, hst, bys_bytesOf, hI, bys_bytesOf]; simp only [List.append_assoc, List.cons_append]
       have hkq : t ++ bytesOf (sepJ k) ++ bytesOf (keyJ j k) = t ++ bytesOf (sepJ k) := by
        rw [show keyJ j k = [] from if_neg ho]
        exact bys_inj (by show bys _ = bys _; rw [cat_bytes]; simp)
       have hs3' : t.size + (bytesOf (printJ z)).size ≤ 9223372036854775807 := by rw [show (bytesOf (printJ z)).size = (printJ z).length from rfl]; omega
       have hs3 : (t ++ bytesOf (sepJ k)).size + (bytesOf (printJ z)).size ≤ 9223372036854775807 := by rw [sz_bytes, show (bytesOf (printJ z)).size = (printJ z).length from rfl]; omega
       refine W.skip (qs (W.seq (W.block ?_)))
       iterate 2 refine W.seq ?_
       refine W.region ?_
       iterate 2 refine pE rfl ?_
       refine WO.nil (qs ?_)
       refine condK rfl (fun h38 => ?_) (fun h38 => ?_)
       ·
        have hs4 : bytesOf (sepJ k) = B #[44] := by unfold sepJ; rw [if_neg (by simp at h38; omega)]; rfl
        refine W.region ?_
        refine pE rfl ?_
        refine pu (puS (strAdd (p := t) (q := B #[44]) rfl rfl (by rw [show (B #[44]).size = 1 from rfl]; omega)) (show _ = t ++ bytesOf (sepJ k) from by rw [hs4])) rfl ?_
        refine pE rfl ?_
        refine WO.nil (qs ?_)
        iterate 2 refine W.seq ?_
        refine W.region ?_
        refine pE rfl ?_
        first | refine pE rfl ?_ | refine pR rfl rfl rfl rfl rfl ?_ | refine pB rfl rfl rfl rfl rfl rfl ?_
        refine pE rfl ?_
        refine WO.nil (qs ?_)
        refine condK rfl (fun h43 => ?_) (fun h43 => ?_)
        ·
         exfalso; simp at h43; omega
        ·
         refine W.skip (qs (W.region ?_))
         iterate 2 refine pE rfl ?_
         first | refine pE rfl ?_ | refine pR rfl rfl rfl rfl rfl ?_ | refine pB rfl rfl rfl rfl rfl rfl ?_
         refine pE rfl ?_
         refine pu (indexAddr (l := z.c) tab rfl rfl rfl rfl rfl rfl (Int.natCast_nonneg _) (idx_map hx) rfl) rfl ?_
         first | refine pE rfl ?_ | refine pR rfl rfl rfl rfl rfl ?_ | refine pB rfl rfl rfl rfl rfl rfl ?_
         refine pu (puCall rfl rfl rfl hxc rfl) rfl ?_
         refine pu (puS (strAdd rfl rfl (by first | exact hs3 | exact hs3')) (show _ = t ++ bytesOf (sepJ k) ++ bytesOf (keyJ j k) ++ bytesOf (printJ z) from by first | (rw [hkq]; done) | rw [hkq, hs])) rfl ?_
         refine pE rfl ?_
         refine WO.nil (qbN (qs (W.region ?_)))
         iterate 3 refine pE rfl ?_
         refine WO.nil ?_
         refine W.endR [0] ⟨(k + 1, t ++ bytesOf (sepJ k) ++ bytesOf (keyJ j k) ++ bytesOf (printJ z)), ?_⟩ ?_ rfl ?_ trivial ?_ trivial rfl
         · exact ⟨hlt, by rw [← hN]⟩
         · dsimp only; omega
         · repeat' first | exact trivial | refine ⟨rfl, ?_⟩ | refine ⟨congrArg some (renL_boxE _ _ _), ?_⟩ | refine ⟨step_nat (by assumption) (by assumption), ?_⟩
         · repeat' first | exact trivial | refine ⟨rfl, ?_⟩ | refine ⟨congrArg some (renL_boxE _ _ _), ?_⟩ | refine ⟨step_nat (by assumption) (by assumption), ?_⟩
       ·
        have hs : t ++ bytesOf (sepJ k) = t := by
         unfold sepJ; rw [if_pos (by simp at h38; omega)]
         exact bys_inj (by show bys _ = bys _; rw [cat_bytes]; simp)
        refine W.skip (qs ?_)
        iterate 2 refine W.seq ?_
        refine W.region ?_
        refine pE rfl ?_
        first | refine pE rfl ?_ | refine pR rfl rfl rfl rfl rfl ?_ | refine pB rfl rfl rfl rfl rfl rfl ?_
        refine pE rfl ?_
        refine WO.nil (qs ?_)
        refine condK rfl (fun h43 => ?_) (fun h43 => ?_)
        ·
         exfalso; simp at h43; omega
        ·
         refine W.skip (qs (W.region ?_))
         iterate 2 refine pE rfl ?_
         first | refine pE rfl ?_ | refine pR rfl rfl rfl rfl rfl ?_ | refine pB rfl rfl rfl rfl rfl rfl ?_
         refine pE rfl ?_
         refine pu (indexAddr (l := z.c) tab rfl rfl rfl rfl rfl rfl (Int.natCast_nonneg _) (idx_map hx) rfl) rfl ?_
         first | refine pE rfl ?_ | refine pR rfl rfl rfl rfl rfl ?_ | refine pB rfl rfl rfl rfl rfl rfl ?_
         refine pu (puCall rfl rfl rfl hxc rfl) rfl ?_
         refine pu (puS (strAdd rfl rfl (by first | exact hs3 | exact hs3')) (show _ = t ++ bytesOf (sepJ k) ++ bytesOf (keyJ j k) ++ bytesOf (printJ z) from by first | (rw [hkq]; done) | rw [hkq, hs])) rfl ?_
         refine pE rfl ?_
         refine WO.nil (qbN (qs (W.region ?_)))
         iterate 3 refine pE rfl ?_
         refine WO.nil ?_
         refine W.endR [0] ⟨(k + 1, t ++ bytesOf (sepJ k) ++ bytesOf (keyJ j k) ++ bytesOf (printJ z)), ?_⟩ ?_ rfl ?_ trivial ?_ trivial rfl
         · exact ⟨hlt, by rw [← hN]⟩
         · dsimp only; omega
         · repeat' first | exact trivial | refine ⟨rfl, ?_⟩ | refine ⟨congrArg some (renL_boxE _ _ _), ?_⟩ | refine ⟨step_nat (by assumption) (by assumption), ?_⟩
         · repeat' first | exact trivial | refine ⟨rfl, ?_⟩ | refine ⟨congrArg some (renL_boxE _ _ _), ?_⟩ | refine ⟨step_nat (by assumption) (by assumption), ?_⟩
      ·
       have e : k = j.kids.length := by have := congrArg List.length hd; simp at this; omega
       have hts : t.size = (listJ j k).length + 1 := by rw [hI]; rfl
       have hfin : t ++ B #[93] = bytesOf (printJ j) := by
        rw [hI, hg, hC']
        refine bys_inj ?_
        show bys _ = bys _
        rw [show (B #[93]) = bytesOf [93] from rfl, cat_bytes, bys_bytesOf, bys_bytesOf, e]; rfl
       rw [hg] at hz
       simp only [List.length_cons, List.length_append, List.length_nil] at hz
       rw [← e] at hz
       refine W.exit (qsExit (qlExit (qbExit (qs (W.seq (W.region ?_))))))
       iterate 2 refine pE rfl ?_
       refine pu (puS (strAdd (p := t) (q := B #[93]) rfl rfl (by rw [show (B #[93]).size = 1 from rfl]; omega)) hfin) rfl ?_
       refine pE rfl ?_
       refine WO.nil (qs (W.ret ?_))
       refine QF.ret0 trivial rfl ?_
       first | rfl | (rw [hg]; rfl) | (rw [hg, bytesOf_bys]; rfl)
theorem rprint_fn : ∀ (j : JV) (lv : Int), checkJ j lv = 0 → (printJ j).length ≤ 1000000000000 → Does Tryd.prog 25 [.ag j.c] (.d (.v (.string (bytesOf (printJ j))))) 0 := by
 refine JV.ind fun j ih => ?_
 intro lv hc hz
 obtain ⟨hop, htwo, hnum, hlen6, hkids⟩ := okN hc
 by_cases ho : j.op = 6
 · exact rprint_obj j (fun z h1 h2 => ih z h1 _ (hkids z h1) h2) hop hnum hlen6 hz ho
 · exact rprint_arr j (fun z h1 h2 => ih z h1 _ (hkids z h1) h2) hop hnum hlen6 hz ho
end Go.Proofs.YtllkpgnpioojjaaDoor
namespace Go.Proofs.YtllkpgnpioojjaaDoor
open Go.Ab Go.Tb
set_option maxRecDepth 10000
attribute [local irreducible] W WO Pu QS QB QL QF QV QV1 CH QE
theorem quote_to {u : Bool} {t s r : ByteArray} (e : t ++ bytesOf (quoteL (bys s)) = r) (hz : t.size + 2 * s.size + 2 ≤ 140737488355328) : DoesB Tryd.prog 39 [.ptr 0 0, .d (.v (.string s))] [[.np 0 tB u, .bf 1 tU t]] 1 (.tup []) [[.np 0 tB true, .bf 1 tU r]] 1 := e ▸ quote_fn u t s hz
theorem sz_of (l : List UInt8) : (bytesOf l).size = l.length := rfl
theorem text2 {n : Int} (h : n = 0 ∨ n = 1) : ([[cs (B #[102, 97, 108, 115, 101])], [cs (B #[116, 114, 117, 101])]] : List (List D))[n.toNat]? = some [cs (bytesOf (if n = 1 then trueL else falseL))] := by
 rcases h with rfl | rfl <;> rfl
theorem wprint_obj (j : JV) (u : Bool) (t : ByteArray) (ih : ∀ z ∈ j.kids, ∀ (u : Bool) (t r : ByteArray), t ++ bytesOf (printJ z) = r → t.size + 2 * (printJ z).length + 2 ≤ 140737488355328 → DoesB Tryd.prog 23 [.ptr 0 0, .ag z.c] [[.np 0 tB u, .bf 1 tU t]] 1 (.tup []) [[.np 0 tB true, .bf 1 tU r]] 1) (hop : 1 ≤ j.op ∧ j.op ≤ 6) (htwo : j.op = 2 → j.n = 0 ∨ j.n = 1) (hnum : j.op = 3 → inR j.n = true) (hlen6 : j.op = 6 → j.keys.length = j.kids.length) (hz : t.size + 2 * (printJ j).length + 2 ≤ 140737488355328) (ho : j.op = 6) :
  DoesB Tryd.prog 23 [.ptr 0 0, .ag j.c] [[.np 0 tB u, .bf 1 tU t]] 1 (.tup []) [[.np 0 tB true, .bf 1 tU (t ++ bytesOf (printJ j))]] 1 := by
 have hO : openJ j = 123 := if_pos ho
 have hC' : closeJ j = 125 := if_pos ho
 rw [jc_map j]
 refine DoesB.of_V tab (n := 74) (rs := []) Tryd.func23 (by kernel_rfl) rfl Tryd.ntmps23 Tryd.results23 rfl rfl fun C hC hG => ?_
 refine W.seq (W.region ?_)
 refine boxR rfl rfl rfl ?_
 refine WO.nil (qs (W.seq (W.region ?_)))
 refine pE rfl ?_
 first | refine pE rfl ?_ | refine pR rfl rfl rfl rfl rfl ?_ | refine pB rfl rfl rfl rfl rfl rfl ?_
 refine WO.nil (qs (W.block (W.seq (W.region ?_))))
 iterate 2 refine pE rfl ?_
 refine WO.nil (qs ?_)
 refine condK rfl (fun h48 => ?_) (fun h48 => ?_)
 ·
  exfalso; simp at h48; omega
 ·
  refine W.seq (W.region ?_)
  iterate 2 refine pE rfl ?_
  refine WO.nil (qs ?_)
  refine condK rfl (fun h52 => ?_) (fun h52 => ?_)
  ·
   exfalso; simp at h52; omega
  ·
   refine W.seq (W.region ?_)
   iterate 2 refine pE rfl ?_
   refine WO.nil (qs ?_)
   refine condK rfl (fun h61 => ?_) (fun h61 => ?_)
   ·
    exfalso; simp at h61; omega
   ·
    refine W.seq (W.region ?_)
    iterate 2 refine pE rfl ?_
    refine WO.nil (qs ?_)
    refine condK rfl (fun h68 => ?_) (fun h68 => ?_)
    ·
     exfalso; simp at h68; omega
    ·
     have hg := print_list (j := j) (by omega) (by omega) (by omega) (by omega) hlen6
     refine W.seq (W.region ?_)
     refine pE rfl ?_
     refine WO.nil (qs ?_)
     iterate 2 refine W.seq ?_
     refine W.region ?_
     refine pE rfl ?_
     first | refine pE rfl ?_ | refine pR rfl rfl rfl rfl rfl ?_ | refine pB rfl rfl rfl rfl rfl rfl ?_
     refine pE rfl ?_
     refine WO.nil (qs ?_)
     refine condK rfl (fun h11 => ?_) (fun h11 => ?_)
     ·
      refine W.region ?_
      refine pE rfl ?_
      refine WO.nil (qs (W.seq (W.region ?_)))
      iterate 2 refine pE rfl ?_
      refine pu (indexStr (b := 123) tab rfl rfl rfl rfl (by decide) rfl) rfl ?_
      refine callB [0] [1] rfl rfl rfl rfl rfl ((bbyte_to (c := 123) (s := t) (m := B #[123]) (r := t ++ bytesOf [123]) rfl rfl (one_bb 123).2 (by omega))) rfl rfl (by rfl) (by rfl) rfl rfl rfl rfl ?_
      refine WO.nil (qs ?_)
      iterate 2 refine W.seq ?_
      refine W.region ?_
      refine pE rfl ?_
      first | refine pE rfl ?_ | refine pR rfl rfl rfl rfl rfl ?_ | refine pB rfl rfl rfl rfl rfl rfl ?_
      iterate 2 refine pE rfl ?_
      refine WO.nil (qs (W.block ?_))
      refine W.len (t := 17) rfl rfl (fun hlen => ?_)
      try simp only [List.length_map, Ex.kc_len] at hlen
      refine W.loopR (ι := {x : Nat × ByteArray // match x with | (k, T) => k ≤ j.kids.length ∧ T = t ++ bytesOf (openJ j :: listJ j k)})
       (fun x => match x.1 with | (k, T) => [(0, .ptr 0 0), (3, .ptr 2 0), (19, .d (.v (.int .i64 ((k : Nat) : Int))))]) [(4, _), (17, _), (18, _)]
       (fun x => match x.1 with | (k, T) => [(0, [.np 0 tB true, .bf 1 tU T]), (2, [.d (ci j.op), .d (ci j.n), .d (cs j.s), .d (.sl (j.keys.map sc)), .d (.sl (j.kids.map JV.c))])]) [] [1] 3 (fun x => match x.1 with | (k, T) => j.kids.length - k)
       [0, 4, 2] ⟨(0, t ++ bytesOf [123]), ?_⟩ rfl ?_ ⟨rfl, rfl, rfl, rfl, rfl, rfl, trivial⟩ ?_ trivial rfl ?_
      · exact ⟨Nat.zero_le _, by rw [list_zero, hO]⟩
      · repeat' first | exact trivial | refine ⟨rfl, ?_⟩ | refine ⟨congrArg some (renL_boxE _ _ _), ?_⟩ | refine ⟨step_nat (by assumption) (by assumption), ?_⟩
      · repeat' first | exact trivial | refine ⟨rfl, ?_⟩ | refine ⟨congrArg some (renL_boxE _ _ _), ?_⟩ | refine ⟨step_nat (by assumption) (by assumption), ?_⟩
      rintro ⟨⟨k, T⟩, hk, hI⟩
      show W _ _ _ _ _ ⟨[(0, .ptr 0 0), (3, .ptr 2 0), (19, .d (.v (.int .i64 ((k : Nat) : Int)))), (4, _), (17, _), (18, _)], [(0, [.np 0 tB true, .bf 1 tU T]), (2, [.d (ci j.op), .d (ci j.n), .d (cs j.s), .d (.sl (j.keys.map sc)), .d (.sl (j.kids.map JV.c))])], [1], 3⟩
      refine W.seq (W.region ?_)
      refine pE rfl ?_
      refine WO.nil (qs (W.seq ?_))
      refine eachR (l := j.kids) (k := k) rfl (by simp [Ex.kc_len, bytes_len]) hk (fun z hx hd hlt => ?_) (fun he hd => ?_)
      ·
       have hp := list_part hx hlen6
       have hst := list_step hx hlen6
       have hkl : k < j.kids.length := hlt
       rw [hg] at hz
       simp only [List.length_cons, List.length_append, List.length_nil] at hz
       have hTs : T.size = t.size + (listJ j k).length + 1 := by rw [hI, sz_bytes]; rfl
       have hxc : ∀ {u : Bool} {t r : ByteArray}, t ++ bytesOf (printJ z) = r → t.size + 2 * (printJ z).length + 2 ≤ 140737488355328 → DoesB Tryd.prog 23 [.ptr 0 0, .ag z.c] [[.np 0 tB u, .bf 1 tU t]] 1 (.tup []) [[.np 0 tB true, .bf 1 tU r]] 1 := fun {u t r} => ih z (List.mem_of_getElem? hx) u t r
       have hN : T ++ bytesOf (sepJ k) ++ bytesOf (keyJ j k) ++ bytesOf (printJ z) = t ++ bytesOf (openJ j :: listJ j (k + 1)) := by
        rw [hI, catA, catA, catA, hst]; simp only [List.append_assoc, List.cons_append]
       have hsepl : (sepJ k).length ≤ 1 := by unfold sepJ; split <;> simp
       obtain ⟨s, hks, hkq⟩ := key_at ho (hlen6 ho) hkl
       have hkl2 : (keyJ j k).length = (quoteL (bys s)).length + 1 := by rw [hkq]; simp
       have hsz := quote_ge s
       have hs0 : (T ++ bytesOf (sepJ k)).size ≤ T.size + 1 := by rw [sz_bytes]; omega
       refine W.skip (qs (W.seq (W.block (W.seq (W.region ?_)))))
       refine pE rfl ?_
       refine pu (indexAddr (l := z.c) tab rfl rfl rfl rfl rfl rfl (Int.natCast_nonneg _) (idx_map hx) rfl) rfl ?_
       first | refine pE rfl ?_ | refine pR rfl rfl rfl rfl rfl ?_ | refine pB rfl rfl rfl rfl rfl rfl ?_
       refine allocR tab rfl rfl rfl ?_
       refine pE rfl ?_
       refine storeR tab rfl rfl rfl rfl rfl rfl rfl rfl ?_
       refine WO.nil (qs ?_)
       iterate 2 refine W.seq ?_
       refine W.region ?_
       iterate 2 refine pE rfl ?_
       refine WO.nil (qs ?_)
       refine condK rfl (fun h25 => ?_) (fun h25 => ?_)
       ·
        have hs4 : bytesOf (sepJ k) = B #[44] := by unfold sepJ; rw [if_neg (by simp at h25; omega)]; rfl
        refine W.region ?_
        refine pE rfl ?_
        refine callB [0] [1] rfl rfl rfl rfl rfl ((bbyte_to (c := 44) (s := T) (m := B #[44]) (r := T ++ bytesOf (sepJ k)) (by rw [hs4]) rfl (one_bb 44).2 (by omega))) rfl rfl (by rfl) (by rfl) rfl rfl rfl rfl ?_
        refine WO.nil (qs ?_)
        iterate 2 refine W.seq ?_
        refine W.region ?_
        refine pE rfl ?_
        first | refine pE rfl ?_ | refine pR rfl rfl rfl rfl rfl ?_ | refine pB rfl rfl rfl rfl rfl rfl ?_
        refine pE rfl ?_
        refine WO.nil (qs ?_)
        refine condK rfl (fun h30 => ?_) (fun h30 => ?_)
        ·
         refine W.seq (W.region ?_)
         iterate 2 refine pE rfl ?_
         first | refine pE rfl ?_ | refine pR rfl rfl rfl rfl rfl ?_ | refine pB rfl rfl rfl rfl rfl rfl ?_
         refine pE rfl ?_
         refine pu (indexAddr (l := sc s) tab rfl rfl rfl rfl rfl rfl (Int.natCast_nonneg _) (idx_map hks) rfl) rfl ?_
         first | refine pE rfl ?_ | refine pR rfl rfl rfl rfl rfl ?_ | refine pB rfl rfl rfl rfl rfl rfl ?_
         first | refine callB [0] [5] rfl rfl rfl rfl rfl (quote_to (s := s) (r := T ++ bytesOf (sepJ k) ++ bytesOf (quoteL (bys s))) (by first | rfl | rw [hs]) (by omega)) rfl rfl (by rfl) (by rfl) rfl rfl rfl rfl ?_ | refine callB [0] [1] rfl rfl rfl rfl rfl (quote_to (s := s) (r := T ++ bytesOf (sepJ k) ++ bytesOf (quoteL (bys s))) (by first | rfl | rw [hs]) (by omega)) rfl rfl (by rfl) (by rfl) rfl rfl rfl rfl ?_
         refine WO.nil (qs (W.region ?_))
         refine pE rfl ?_
         first | refine callB [0] [7] rfl rfl rfl rfl rfl (bbyte_to (c := 58) (s := T ++ bytesOf (sepJ k) ++ bytesOf (quoteL (bys s))) (m := B #[58]) (r := T ++ bytesOf (sepJ k) ++ bytesOf (keyJ j k)) (by rw [hkq, ← catA]; rfl) rfl (one_bb 58).2 (by rw [sz_bytes]; omega)) rfl rfl (by rfl) (by rfl) rfl rfl rfl rfl ?_ | refine callB [0] [5] rfl rfl rfl rfl rfl (bbyte_to (c := 58) (s := T ++ bytesOf (sepJ k) ++ bytesOf (quoteL (bys s))) (m := B #[58]) (r := T ++ bytesOf (sepJ k) ++ bytesOf (keyJ j k)) (by rw [hkq, ← catA]; rfl) rfl (one_bb 58).2 (by rw [sz_bytes]; omega)) rfl rfl (by rfl) (by rfl) rfl rfl rfl rfl ?_
         refine WO.nil (qs (W.region ?_))
         refine pE rfl ?_
         first | refine pE rfl ?_ | refine pR rfl rfl rfl rfl rfl ?_ | refine pB rfl rfl rfl rfl rfl rfl ?_
         first | refine callB [0] [9] rfl rfl rfl rfl rfl (hxc (t := T ++ bytesOf (sepJ k) ++ bytesOf (keyJ j k)) (r := T ++ bytesOf (sepJ k) ++ bytesOf (keyJ j k) ++ bytesOf (printJ z)) rfl (by rw [sz_bytes]; omega)) rfl rfl (by rfl) (by rfl) rfl rfl rfl rfl ?_ | refine callB [0] [7] rfl rfl rfl rfl rfl (hxc (t := T ++ bytesOf (sepJ k) ++ bytesOf (keyJ j k)) (r := T ++ bytesOf (sepJ k) ++ bytesOf (keyJ j k) ++ bytesOf (printJ z)) rfl (by rw [sz_bytes]; omega)) rfl rfl (by rfl) (by rfl) rfl rfl rfl rfl ?_
         refine WO.nil (qbN (qs (W.region ?_)))
         iterate 2 refine pE rfl ?_
         refine WO.nil ?_
         first | (refine W.endR [0, 9, 2] ⟨(k + 1, T ++ bytesOf (sepJ k) ++ bytesOf (keyJ j k) ++ bytesOf (printJ z)), ?_⟩ ?_ rfl ?_ ⟨rfl, rfl, rfl, rfl, rfl, rfl, trivial⟩ ?_ trivial rfl) | (refine W.endR [0, 11, 2] ⟨(k + 1, T ++ bytesOf (sepJ k) ++ bytesOf (keyJ j k) ++ bytesOf (printJ z)), ?_⟩ ?_ rfl ?_ ⟨rfl, rfl, rfl, rfl, rfl, rfl, trivial⟩ ?_ trivial rfl)
         · exact ⟨hlt, hN⟩
         · dsimp only; omega
         · repeat' first | exact trivial | refine ⟨rfl, ?_⟩ | refine ⟨congrArg some (renL_boxE _ _ _), ?_⟩ | refine ⟨step_nat (by assumption) (by assumption), ?_⟩
         · repeat' first | exact trivial | refine ⟨rfl, ?_⟩ | refine ⟨congrArg some (renL_boxE _ _ _), ?_⟩ | refine ⟨step_nat (by assumption) (by assumption), ?_⟩
        ·
         exfalso; simp at h30; omega
       ·
        have hs : T ++ bytesOf (sepJ k) = T := by
         unfold sepJ; rw [if_pos (by simp at h25; omega)]
         exact bys_inj (by show bys _ = bys _; rw [cat_bytes]; simp)
        refine W.skip (qs ?_)
        iterate 2 refine W.seq ?_
        refine W.region ?_
        refine pE rfl ?_
        first | refine pE rfl ?_ | refine pR rfl rfl rfl rfl rfl ?_ | refine pB rfl rfl rfl rfl rfl rfl ?_
        refine pE rfl ?_
        refine WO.nil (qs ?_)
        refine condK rfl (fun h30 => ?_) (fun h30 => ?_)
        ·
         refine W.seq (W.region ?_)
         iterate 2 refine pE rfl ?_
         first | refine pE rfl ?_ | refine pR rfl rfl rfl rfl rfl ?_ | refine pB rfl rfl rfl rfl rfl rfl ?_
         refine pE rfl ?_
         refine pu (indexAddr (l := sc s) tab rfl rfl rfl rfl rfl rfl (Int.natCast_nonneg _) (idx_map hks) rfl) rfl ?_
         first | refine pE rfl ?_ | refine pR rfl rfl rfl rfl rfl ?_ | refine pB rfl rfl rfl rfl rfl rfl ?_
         first | refine callB [0] [5] rfl rfl rfl rfl rfl (quote_to (s := s) (r := T ++ bytesOf (sepJ k) ++ bytesOf (quoteL (bys s))) (by first | rfl | rw [hs]) (by omega)) rfl rfl (by rfl) (by rfl) rfl rfl rfl rfl ?_ | refine callB [0] [1] rfl rfl rfl rfl rfl (quote_to (s := s) (r := T ++ bytesOf (sepJ k) ++ bytesOf (quoteL (bys s))) (by first | rfl | rw [hs]) (by omega)) rfl rfl (by rfl) (by rfl) rfl rfl rfl rfl ?_
         refine WO.nil (qs (W.region ?_))
         refine pE rfl ?_
         first | refine callB [0] [7] rfl rfl rfl rfl rfl (bbyte_to (c := 58) (s := T ++ bytesOf (sepJ k) ++ bytesOf (quoteL (bys s))) (m := B #[58]) (r := T ++ bytesOf (sepJ k) ++ bytesOf (keyJ j k)) (by rw [hkq, ← catA]; rfl) rfl (one_bb 58).2 (by rw [sz_bytes]; omega)) rfl rfl (by rfl) (by rfl) rfl rfl rfl rfl ?_ | refine callB [0] [5] rfl rfl rfl rfl rfl (bbyte_to (c := 58) (s := T ++ bytesOf (sepJ k) ++ bytesOf (quoteL (bys s))) (m := B #[58]) (r := T ++ bytesOf (sepJ k) ++ bytesOf (keyJ j k)) (by rw [hkq, ← catA]; rfl) rfl (one_bb 58).2 (by rw [sz_bytes]; omega)) rfl rfl (by rfl) (by rfl) rfl rfl rfl rfl ?_
         refine WO.nil (qs (W.region ?_))
         refine pE rfl ?_
         first | refine pE rfl ?_ | refine pR rfl rfl rfl rfl rfl ?_ | refine pB rfl rfl rfl rfl rfl rfl ?_
         first | refine callB [0] [9] rfl rfl rfl rfl rfl (hxc (t := T ++ bytesOf (sepJ k) ++ bytesOf (keyJ j k)) (r := T ++ bytesOf (sepJ k) ++ bytesOf (keyJ j k) ++ bytesOf (printJ z)) rfl (by rw [sz_bytes]; omega)) rfl rfl (by rfl) (by rfl) rfl rfl rfl rfl ?_ | refine callB [0] [7] rfl rfl rfl rfl rfl (hxc (t := T ++ bytesOf (sepJ k) ++ bytesOf (keyJ j k)) (r := T ++ bytesOf (sepJ k) ++ bytesOf (keyJ j k) ++ bytesOf (printJ z)) rfl (by rw [sz_bytes]; omega)) rfl rfl (by rfl) (by rfl) rfl rfl rfl rfl ?_
         refine WO.nil (qbN (qs (W.region ?_)))
         iterate 2 refine pE rfl ?_
         refine WO.nil ?_
         first | (refine W.endR [0, 9, 2] ⟨(k + 1, T ++ bytesOf (sepJ k) ++ bytesOf (keyJ j k) ++ bytesOf (printJ z)), ?_⟩ ?_ rfl ?_ ⟨rfl, rfl, rfl, rfl, rfl, rfl, trivial⟩ ?_ trivial rfl) | (refine W.endR [0, 11, 2] ⟨(k + 1, T ++ bytesOf (sepJ k) ++ bytesOf (keyJ j k) ++ bytesOf (printJ z)), ?_⟩ ?_ rfl ?_ ⟨rfl, rfl, rfl, rfl, rfl, rfl, trivial⟩ ?_ trivial rfl)
         · exact ⟨hlt, hN⟩
         · dsimp only; omega
         · repeat' first | exact trivial | refine ⟨rfl, ?_⟩ | refine ⟨congrArg some (renL_boxE _ _ _), ?_⟩ | refine ⟨step_nat (by assumption) (by assumption), ?_⟩
         · repeat' first | exact trivial | refine ⟨rfl, ?_⟩ | refine ⟨congrArg some (renL_boxE _ _ _), ?_⟩ | refine ⟨step_nat (by assumption) (by assumption), ?_⟩
        ·
         exfalso; simp at h30; omega
      ·
       have e : k = j.kids.length := by have := congrArg List.length hd; simp at this; omega
       have hTs : T.size = t.size + (listJ j k).length + 1 := by rw [hI, sz_bytes]; rfl
       have hfin : T ++ B #[125] = t ++ bytesOf (printJ j) := by
        rw [hI, hg, hC', show (B #[125]) = bytesOf [125] from rfl, catA, e]; rfl
       rw [hg] at hz
       simp only [List.length_cons, List.length_append, List.length_nil] at hz
       rw [← e] at hz
       refine W.exit (qsExit (qlExit (qbExit (qs (W.region ?_)))))
       iterate 2 refine pE rfl ?_
       refine pu (indexStr (b := 125) tab rfl rfl rfl rfl (by decide) rfl) rfl ?_
       refine callB [0] [1] rfl rfl rfl rfl rfl ((bbyte_to (c := 125) (s := T) (m := B #[125]) (r := t ++ bytesOf (printJ j)) hfin rfl (one_bb 125).2 (by omega))) rfl rfl (by rfl) (by rfl) rfl rfl rfl rfl ?_
       refine WO.nil (qbN ?_)
       refine QB1.end tab [4] trivial rfl rfl rfl rfl ?_ ?_
       · exact ⟨rfl, trivial⟩
       rfl
     ·
      exfalso; simp at h11; omega
theorem wprint_arr (j : JV) (u : Bool) (t : ByteArray) (ih : ∀ z ∈ j.kids, ∀ (u : Bool) (t r : ByteArray), t ++ bytesOf (printJ z) = r → t.size + 2 * (printJ z).length + 2 ≤ 140737488355328 → DoesB Tryd.prog 23 [.ptr 0 0, .ag z.c] [[.np 0 tB u, .bf 1 tU t]] 1 (.tup []) [[.np 0 tB true, .bf 1 tU r]] 1) (hop : 1 ≤ j.op ∧ j.op ≤ 6) (htwo : j.op = 2 → j.n = 0 ∨ j.n = 1) (hnum : j.op = 3 → inR j.n = true) (hlen6 : j.op = 6 → j.keys.length = j.kids.length) (hz : t.size + 2 * (printJ j).length + 2 ≤ 140737488355328) (ho : ¬ j.op = 6) :
  DoesB Tryd.prog 23 [.ptr 0 0, .ag j.c] [[.np 0 tB u, .bf 1 tU t]] 1 (.tup []) [[.np 0 tB true, .bf 1 tU (t ++ bytesOf (printJ j))]] 1 := by
 have hO : openJ j = 91 := if_neg ho
 have hC' : closeJ j = 93 := if_neg ho
 rw [jc_map j]
 refine DoesB.of_V tab (n := 74) (rs := []) Tryd.func23 (by kernel_rfl) rfl Tryd.ntmps23 Tryd.results23 rfl rfl fun C hC hG => ?_
 refine W.seq (W.region ?_)
 refine boxR rfl rfl rfl ?_
 refine WO.nil (qs (W.seq (W.region ?_)))
 refine pE rfl ?_
 first | refine pE rfl ?_ | refine pR rfl rfl rfl rfl rfl ?_ | refine pB rfl rfl rfl rfl rfl rfl ?_
 refine WO.nil (qs (W.block (W.seq (W.region ?_))))
 iterate 2 refine pE rfl ?_
 refine WO.nil (qs ?_)
 refine condK rfl (fun h48 => ?_) (fun h48 => ?_)
 ·
  have e : j.op = 1 := by simpa using h48
  have hg := print1 e
  have hgl : (printJ j).length = 4 := by rw [hg]; rfl
  refine W.region ?_
  refine pE rfl ?_
  refine callB [0] [1] rfl rfl rfl rfl rfl ((bwrite_to (s := t) (x := B #[110, 117, 108, 108]) (r := t ++ bytesOf (printJ j)) (by rw [hg]; rfl) (by rw [show (B #[110, 117, 108, 108]).size = 4 from rfl]; omega))) rfl rfl (by rfl) (by rfl) rfl rfl rfl rfl ?_
  refine WO.nil (qbN ?_)
  refine QB1.end tab [4] trivial rfl rfl rfl rfl ?_ ?_
  · exact ⟨rfl, trivial⟩
  rfl
 ·
  have e1 : j.op ≠ 1 := by simpa using h48
  refine W.seq (W.region ?_)
  iterate 2 refine pE rfl ?_
  refine WO.nil (qs ?_)
  refine condK rfl (fun h52 => ?_) (fun h52 => ?_)
  ·
   have e : j.op = 2 := by simpa using h52
   have hg := print2 e
   have hn2 := htwo e
   refine W.region ?_
   refine pE rfl ?_
   refine pu (buildV tab rfl rfl rfl rfl rfl rfl rfl rfl rfl) rfl ?_
   refine pE rfl ?_
   first | refine pE rfl ?_ | refine pR rfl rfl rfl rfl rfl ?_ | refine pB rfl rfl rfl rfl rfl rfl ?_
   refine pu (indexAddr (l := [cs (bytesOf (if j.n = 1 then trueL else falseL))]) tab rfl rfl rfl rfl rfl rfl (by omega) (text2 hn2) rfl) rfl ?_
   first | refine pE rfl ?_ | refine pR rfl rfl rfl rfl rfl ?_ | refine pB rfl rfl rfl rfl rfl rfl ?_
   refine callB [0] [1] rfl rfl rfl rfl rfl ((bwrite_to (s := t) (x := bytesOf (if j.n = 1 then trueL else falseL)) (r := t ++ bytesOf (printJ j)) (by rw [hg]) (by rw [hg] at hz; rw [sz_of]; omega))) rfl rfl (by rfl) (by rfl) rfl rfl rfl rfl ?_
   refine WO.nil (qbN ?_)
   refine QB1.end tab [4] trivial rfl rfl rfl rfl ?_ ?_
   · exact ⟨rfl, trivial⟩
   rfl
  ·
   have e2 : j.op ≠ 2 := by simpa using h52
   refine W.seq (W.region ?_)
   iterate 2 refine pE rfl ?_
   refine WO.nil (qs ?_)
   refine condK rfl (fun h61 => ?_) (fun h61 => ?_)
   ·
    have e : j.op = 3 := by simpa using h61
    have hg := print3 e
    have hi := i64_of (hnum e)
    refine W.region ?_
    iterate 2 refine pE rfl ?_
    first | refine pE rfl ?_ | refine pR rfl rfl rfl rfl rfl ?_ | refine pB rfl rfl rfl rfl rfl rfl ?_
    refine pu (puCall rfl rfl rfl (text_fn j.n hi.1 hi.2) rfl) rfl ?_
    refine callB [0] [1] rfl rfl rfl rfl rfl ((bwrite_to (s := t) (x := numB j.n) (r := t ++ bytesOf (printJ j)) (by rw [hg, bytesOf_bys]) (by rw [hg, bytes_len] at hz; omega))) rfl rfl (by rfl) (by rfl) rfl rfl rfl rfl ?_
    refine WO.nil (qbN ?_)
    refine QB1.end tab [4] trivial rfl rfl rfl rfl ?_ ?_
    · exact ⟨rfl, trivial⟩
    rfl
   ·
    have e3 : j.op ≠ 3 := by simpa using h61
    refine W.seq (W.region ?_)
    iterate 2 refine pE rfl ?_
    refine WO.nil (qs ?_)
    refine condK rfl (fun h68 => ?_) (fun h68 => ?_)
    ·
     have e : j.op = 4 := by simpa using h68
     have hg := print4 e
     have hq := quote_ge j.s
     refine W.region ?_
     iterate 2 refine pE rfl ?_
     first | refine pE rfl ?_ | refine pR rfl rfl rfl rfl rfl ?_ | refine pB rfl rfl rfl rfl rfl rfl ?_
     refine callB [0] [1] rfl rfl rfl rfl rfl ((quote_to (t := t) (s := j.s) (r := t ++ bytesOf (printJ j)) (by rw [hg]) (by rw [hg] at hz; omega))) rfl rfl (by rfl) (by rfl) rfl rfl rfl rfl ?_
     refine WO.nil (qbN ?_)
     refine QB1.end tab [4] trivial rfl rfl rfl rfl ?_ ?_
     · exact ⟨rfl, trivial⟩
     rfl
    ·
     have e4 : j.op ≠ 4 := by simpa using h68
     have hg := print_list e1 e2 e3 e4 hlen6
     refine W.seq (W.region ?_)
     refine pE rfl ?_
     refine WO.nil (qs ?_)
     iterate 2 refine W.seq ?_
     refine W.region ?_
     refine pE rfl ?_
     first | refine pE rfl ?_ | refine pR rfl rfl rfl rfl rfl ?_ | refine pB rfl rfl rfl rfl rfl rfl ?_
     refine pE rfl ?_
     refine WO.nil (qs ?_)
     refine condK rfl (fun h11 => ?_) (fun h11 => ?_)
     ·
      exfalso; simp at h11; omega
     ·
      refine W.skip (qs (W.seq (W.region ?_)))
      iterate 2 refine pE rfl ?_
      refine pu (indexStr (b := 91) tab rfl rfl rfl rfl (by decide) rfl) rfl ?_
      refine callB [0] [1] rfl rfl rfl rfl rfl ((bbyte_to (c := 91) (s := t) (m := B #[91]) (r := t ++ bytesOf [91]) rfl rfl (one_bb 91).2 (by omega))) rfl rfl (by rfl) (by rfl) rfl rfl rfl rfl ?_
      refine WO.nil (qs ?_)
      iterate 2 refine W.seq ?_
      refine W.region ?_
      refine pE rfl ?_
      first | refine pE rfl ?_ | refine pR rfl rfl rfl rfl rfl ?_ | refine pB rfl rfl rfl rfl rfl rfl ?_
      iterate 2 refine pE rfl ?_
      refine WO.nil (qs (W.block ?_))
      refine W.len (t := 17) rfl rfl (fun hlen => ?_)
      try simp only [List.length_map, Ex.kc_len] at hlen
      refine W.loopR (ι := {x : Nat × ByteArray // match x with | (k, T) => k ≤ j.kids.length ∧ T = t ++ bytesOf (openJ j :: listJ j k)})
       (fun x => match x.1 with | (k, T) => [(0, .ptr 0 0), (3, .ptr 2 0), (19, .d (.v (.int .i64 ((k : Nat) : Int))))]) [(4, _), (17, _), (18, _)]
       (fun x => match x.1 with | (k, T) => [(0, [.np 0 tB true, .bf 1 tU T]), (2, [.d (ci j.op), .d (ci j.n), .d (cs j.s), .d (.sl (j.keys.map sc)), .d (.sl (j.kids.map JV.c))])]) [] [1] 3 (fun x => match x.1 with | (k, T) => j.kids.length - k)
       [0, 4, 2] ⟨(0, t ++ bytesOf [91]), ?_⟩ rfl ?_ ⟨rfl, rfl, rfl, rfl, rfl, rfl, trivial⟩ ?_ trivial rfl ?_
      · exact ⟨Nat.zero_le _, by rw [list_zero, hO]⟩
      · repeat' first | exact trivial | refine ⟨rfl, ?_⟩ | refine ⟨congrArg some (renL_boxE _ _ _), ?_⟩ | refine ⟨step_nat (by assumption) (by assumption), ?_⟩
      · repeat' first | exact trivial | refine ⟨rfl, ?_⟩ | refine ⟨congrArg some (renL_boxE _ _ _), ?_⟩ | refine ⟨step_nat (by assumption) (by assumption), ?_⟩
      rintro ⟨⟨k, T⟩, hk, hI⟩
      show W _ _ _ _ _ ⟨[(0, .ptr 0 0), (3, .ptr 2 0), (19, .d (.v (.int .i64 ((k : Nat) : Int)))), (4, _), (17, _), (18, _)], [(0, [.np 0 tB true, .bf 1 tU T]), (2, [.d (ci j.op), .d (ci j.n), .d (cs j.s), .d (.sl (j.keys.map sc)), .d (.sl (j.kids.map JV.c))])], [1], 3⟩
      refine W.seq (W.region ?_)
      refine pE rfl ?_
      refine WO.nil (qs (W.seq ?_))
      refine eachR (l := j.kids) (k := k) rfl (by simp [Ex.kc_len, bytes_len]) hk (fun z hx hd hlt => ?_) (fun he hd => ?_)
      ·
       have hp := list_part hx hlen6
       have hst := list_step hx hlen6
       have hkl : k < j.kids.length := hlt
       rw [hg] at hz
       simp only [List.length_cons, List.length_append, List.length_nil] at hz
       have hTs : T.size = t.size + (listJ j k).length + 1 := by rw [hI, sz_bytes]; rfl
       have hxc : ∀ {u : Bool} {t r : ByteArray}, t ++ bytesOf (printJ z) = r → t.size + 2 * (printJ z).length + 2 ≤ 140737488355328 → DoesB Tryd.prog 23 [.ptr 0 0, .ag z.c] [[.np 0 tB u, .bf 1 tU t]] 1 (.tup []) [[.np 0 tB true, .bf 1 tU r]] 1 := fun {u t r} => ih z (List.mem_of_getElem? hx) u t r
       have hN : T ++ bytesOf (sepJ k) ++ bytesOf (keyJ j k) ++ bytesOf (printJ z) = t ++ bytesOf (openJ j :: listJ j (k + 1)) := by
        rw [hI, catA, catA, catA, hst]; simp only [List.append_assoc, List.cons_append]
       have hsepl : (sepJ k).length ≤ 1 := by unfold sepJ; split <;> simp
       have hkq : T ++ bytesOf (sepJ k) ++ bytesOf (keyJ j k) = T ++ bytesOf (sepJ k) := by
        rw [show keyJ j k = [] from if_neg ho]
        exact bys_inj (by show bys _ = bys _; rw [cat_bytes]; simp)
       have hs0 : (T ++ bytesOf (sepJ k)).size ≤ T.size + 1 := by rw [sz_bytes]; omega
       refine W.skip (qs (W.seq (W.block (W.seq (W.region ?_)))))
       refine pE rfl ?_
       refine pu (indexAddr (l := z.c) tab rfl rfl rfl rfl rfl rfl (Int.natCast_nonneg _) (idx_map hx) rfl) rfl ?_
       first | refine pE rfl ?_ | refine pR rfl rfl rfl rfl rfl ?_ | refine pB rfl rfl rfl rfl rfl rfl ?_
       refine allocR tab rfl rfl rfl ?_
       refine pE rfl ?_
       refine storeR tab rfl rfl rfl rfl rfl rfl rfl rfl ?_
       refine WO.nil (qs ?_)
       iterate 2 refine W.seq ?_
       refine W.region ?_
       iterate 2 refine pE rfl ?_
       refine WO.nil (qs ?_)
       refine condK rfl (fun h25 => ?_) (fun h25 => ?_)
       ·
        have hs4 : bytesOf (sepJ k) = B #[44] := by unfold sepJ; rw [if_neg (by simp at h25; omega)]; rfl
        refine W.region ?_
        refine pE rfl ?_
        refine callB [0] [1] rfl rfl rfl rfl rfl ((bbyte_to (c := 44) (s := T) (m := B #[44]) (r := T ++ bytesOf (sepJ k)) (by rw [hs4]) rfl (one_bb 44).2 (by omega))) rfl rfl (by rfl) (by rfl) rfl rfl rfl rfl ?_
        refine WO.nil (qs ?_)
        iterate 2 refine W.seq ?_
        refine W.region ?_
        refine pE rfl ?_
        first | refine pE rfl ?_ | refine pR rfl rfl rfl rfl rfl ?_ | refine pB rfl rfl rfl rfl rfl rfl ?_
        refine pE rfl ?_
        refine WO.nil (qs ?_)
        refine condK rfl (fun h30 => ?_) (fun h30 => ?_)
        ·
         exfalso; simp at h30; omega
        ·
         refine W.skip (qs (W.region ?_))
         refine pE rfl ?_
         first | refine pE rfl ?_ | refine pR rfl rfl rfl rfl rfl ?_ | refine pB rfl rfl rfl rfl rfl rfl ?_
         first | refine callB [0] [5] rfl rfl rfl rfl rfl (hxc (r := T ++ bytesOf (sepJ k) ++ bytesOf (keyJ j k) ++ bytesOf (printJ z)) (by first | (rw [hkq]; done) | rw [hkq, hs]) (by omega)) rfl rfl (by rfl) (by rfl) rfl rfl rfl rfl ?_ | refine callB [0] [1] rfl rfl rfl rfl rfl (hxc (r := T ++ bytesOf (sepJ k) ++ bytesOf (keyJ j k) ++ bytesOf (printJ z)) (by first | (rw [hkq]; done) | rw [hkq, hs]) (by omega)) rfl rfl (by rfl) (by rfl) rfl rfl rfl rfl ?_
         refine WO.nil (qbN (qs (W.region ?_)))
         iterate 2 refine pE rfl ?_
         refine WO.nil ?_
         first | (refine W.endR [0, 5, 2] ⟨(k + 1, T ++ bytesOf (sepJ k) ++ bytesOf (keyJ j k) ++ bytesOf (printJ z)), ?_⟩ ?_ rfl ?_ ⟨rfl, rfl, rfl, rfl, rfl, rfl, trivial⟩ ?_ trivial rfl) | (refine W.endR [0, 7, 2] ⟨(k + 1, T ++ bytesOf (sepJ k) ++ bytesOf (keyJ j k) ++ bytesOf (printJ z)), ?_⟩ ?_ rfl ?_ ⟨rfl, rfl, rfl, rfl, rfl, rfl, trivial⟩ ?_ trivial rfl)
         · exact ⟨hlt, hN⟩
         · dsimp only; omega
         · repeat' first | exact trivial | refine ⟨rfl, ?_⟩ | refine ⟨congrArg some (renL_boxE _ _ _), ?_⟩ | refine ⟨step_nat (by assumption) (by assumption), ?_⟩
         · repeat' first | exact trivial | refine ⟨rfl, ?_⟩ | refine ⟨congrArg some (renL_boxE _ _ _), ?_⟩ | refine ⟨step_nat (by assumption) (by assumption), ?_⟩
       ·
        have hs : T ++ bytesOf (sepJ k) = T := by
         unfold sepJ; rw [if_pos (by simp at h25; omega)]
         exact bys_inj (by show bys _ = bys _; rw [cat_bytes]; simp)
        refine W.skip (qs ?_)
        iterate 2 refine W.seq ?_
        refine W.region ?_
        refine pE rfl ?_
        first | refine pE rfl ?_ | refine pR rfl rfl rfl rfl rfl ?_ | refine pB rfl rfl rfl rfl rfl rfl ?_
        refine pE rfl ?_
        refine WO.nil (qs ?_)
        refine condK rfl (fun h30 => ?_) (fun h30 => ?_)
        ·
         exfalso; simp at h30; omega
        ·
         refine W.skip (qs (W.region ?_))
         refine pE rfl ?_
         first | refine pE rfl ?_ | refine pR rfl rfl rfl rfl rfl ?_ | refine pB rfl rfl rfl rfl rfl rfl ?_
         first | refine callB [0] [5] rfl rfl rfl rfl rfl (hxc (r := T ++ bytesOf (sepJ k) ++ bytesOf (keyJ j k) ++ bytesOf (printJ z)) (by first | (rw [hkq]; done) | rw [hkq, hs]) (by omega)) rfl rfl (by rfl) (by rfl) rfl rfl rfl rfl ?_ | refine callB [0] [1] rfl rfl rfl rfl rfl (hxc (r := T ++ bytesOf (sepJ k) ++ bytesOf (keyJ j k) ++ bytesOf (printJ z)) (by first | (rw [hkq]; done) | rw [hkq, hs]) (by omega)) rfl rfl (by rfl) (by rfl) rfl rfl rfl rfl ?_
         refine WO.nil (qbN (qs (W.region ?_)))
         iterate 2 refine pE rfl ?_
         refine WO.nil ?_
         first | (refine W.endR [0, 5, 2] ⟨(k + 1, T ++ bytesOf (sepJ k) ++ bytesOf (keyJ j k) ++ bytesOf (printJ z)), ?_⟩ ?_ rfl ?_ ⟨rfl, rfl, rfl, rfl, rfl, rfl, trivial⟩ ?_ trivial rfl) | (refine W.endR [0, 7, 2] ⟨(k + 1, T ++ bytesOf (sepJ k) ++ bytesOf (keyJ j k) ++ bytesOf (printJ z)), ?_⟩ ?_ rfl ?_ ⟨rfl, rfl, rfl, rfl, rfl, rfl, trivial⟩ ?_ trivial rfl)
         · exact ⟨hlt, hN⟩
         · dsimp only; omega
         · repeat' first | exact trivial | refine ⟨rfl, ?_⟩ | refine ⟨congrArg some (renL_boxE _ _ _), ?_⟩ | refine ⟨step_nat (by assumption) (by assumption), ?_⟩
         · repeat' first | exact trivial | refine ⟨rfl, ?_⟩ | refine ⟨congrArg some (renL_boxE _ _ _), ?_⟩ | refine ⟨step_nat (by assumption) (by assumption), ?_⟩
      ·
       have e : k = j.kids.length := by have := congrArg List.length hd; simp at this; omega
       have hTs : T.size = t.size + (listJ j k).length + 1 := by rw [hI, sz_bytes]; rfl
       have hfin : T ++ B #[93] = t ++ bytesOf (printJ j) := by
        rw [hI, hg, hC', show (B #[93]) = bytesOf [93] from rfl, catA, e]; rfl
       rw [hg] at hz
       simp only [List.length_cons, List.length_append, List.length_nil] at hz
       rw [← e] at hz
       refine W.exit (qsExit (qlExit (qbExit (qs (W.region ?_)))))
       iterate 2 refine pE rfl ?_
       refine pu (indexStr (b := 93) tab rfl rfl rfl rfl (by decide) rfl) rfl ?_
       refine callB [0] [1] rfl rfl rfl rfl rfl ((bbyte_to (c := 93) (s := T) (m := B #[93]) (r := t ++ bytesOf (printJ j)) hfin rfl (one_bb 93).2 (by omega))) rfl rfl (by rfl) (by rfl) rfl rfl rfl rfl ?_
       refine WO.nil (qbN ?_)
       refine QB1.end tab [4] trivial rfl rfl rfl rfl ?_ ?_
       · exact ⟨rfl, trivial⟩
       rfl
theorem wprint_fn : ∀ (j : JV) (lv : Int), checkJ j lv = 0 → ∀ (u : Bool) (t r : ByteArray), t ++ bytesOf (printJ j) = r → t.size + 2 * (printJ j).length + 2 ≤ 140737488355328 → DoesB Tryd.prog 23 [.ptr 0 0, .ag j.c] [[.np 0 tB u, .bf 1 tU t]] 1 (.tup []) [[.np 0 tB true, .bf 1 tU r]] 1 := by
 refine JV.ind fun j ih => ?_
 intro lv hc u t r e hz
 subst e
 obtain ⟨hop, htwo, hnum, hlen6, hkids⟩ := okN hc
 by_cases ho : j.op = 6
 · exact wprint_obj j u t (fun z h1 => ih z h1 _ (hkids z h1)) hop htwo hnum hlen6 hz ho
 · exact wprint_arr j u t (fun z h1 => ih z h1 _ (hkids z h1)) hop htwo hnum hlen6 hz ho
end Go.Proofs.YtllkpgnpioojjaaDoor
namespace Go.Proofs.YtllkpgnpioojjaaDoor
open Go.Ab Go.Tb
set_option maxRecDepth 10000
attribute [local irreducible] W WO Pu QS QB QL QF QV QV1 CH QE
def textOf (j : JV) : ByteArray := if checkJ j 1 = 0 then bytesOf (printJ j) else B #[]
theorem rPrint_fn (j : JV) (hz : checkJ j 1 = 0 → (printJ j).length ≤ 1000000000000) : Does Tryd.prog 12 [.ag j.c] (.tup [.d (.v (.string (textOf j))), .d (.v (.int .i64 (checkJ j 1)))]) 0 := by
 have hc := rCheck_fn j
 have hp : checkJ j 1 = 0 → Does Tryd.prog 25 [.ag j.c] (.d (.v (.string (bytesOf (printJ j))))) 0 := fun h => rprint_fn j 1 h (hz h)
 rw [jc_map j] at hc hp ⊢
 refine Does.of_W (n := 12) (ts := [2, 3]) Tryd.func12 (by kernel_rfl) rfl Tryd.ntmps12 Tryd.results12 rfl rfl fun C hC hG => ?_
 refine W.seq (W.region ?_)
 refine boxR rfl rfl rfl ?_
 iterate 2 refine pE rfl ?_
 refine WO.nil (qs (W.seq (W.region ?_)))
 first | refine pE rfl ?_ | refine pR rfl rfl rfl rfl rfl ?_ | refine pB rfl rfl rfl rfl rfl rfl ?_
 refine pu (puCall rfl rfl rfl hc rfl) rfl ?_
 refine pE rfl ?_
 refine WO.nil (qs ?_)
 iterate 2 refine W.seq ?_
 refine W.region ?_
 iterate 2 refine pE rfl ?_
 refine WO.nil (qs ?_)
 refine condK rfl (fun h8 => ?_) (fun h8 => ?_)
 ·
  have hg : textOf j = B #[] := by unfold textOf; rw [if_neg (by simpa using h8)]
  refine W.seq (W.region ?_)
  iterate 3 refine pE rfl ?_
  refine WO.nil (qs (W.ret (qsRet ?_)))
  refine QF.ret0 trivial rfl ?_
  rw [hg]; rfl
 ·
  have h0 : checkJ j 1 = 0 := by simpa using h8
  have hg : textOf j = bytesOf (printJ j) := by unfold textOf; rw [if_pos h0]
  refine W.skip (qs (W.seq (W.region ?_)))
  first | refine pE rfl ?_ | refine pR rfl rfl rfl rfl rfl ?_ | refine pB rfl rfl rfl rfl rfl rfl ?_
  refine pu (puCall rfl rfl rfl (hp h0) rfl) rfl ?_
  iterate 2 refine pE rfl ?_
  refine WO.nil (qs (W.ret ?_))
  refine QF.ret0 trivial rfl ?_
  rw [hg, h0]; rfl
theorem pPrintH_fn (j : JV) (hz : checkJ j 1 = 0 → (printJ j).length ≤ 1000000000000) : DoesH Tryd.prog (fun _ => True) 11 [.ag j.c] (.tup [.d (.v (.string (textOf j))), .d (.v (.int .i64 (checkJ j 1)))]) 0 := by
 have hc := pCheck_fn j
 rw [jc_map j] at hc ⊢
 refine DoesH.of_V tab (n := 14) (rs := [.tmp 2, .tmp 3]) Tryd.func11 (by kernel_rfl) rfl Tryd.ntmps11 Tryd.results11 rfl fun C hC hG hH hfp => ?_
 refine W.seq (W.region ?_)
 refine boxR rfl rfl rfl ?_
 iterate 2 refine pE rfl ?_
 refine WO.nil (qs ?_)
 iterate 2 refine W.seq ?_
 refine W.region ?_
 first | refine pE rfl ?_ | refine pR rfl rfl rfl rfl rfl ?_ | refine pB rfl rfl rfl rfl rfl rfl ?_
 refine pu (puCall rfl rfl rfl hc rfl) rfl ?_
 refine pE rfl ?_
 refine WO.nil (qs (W.seq (W.region ?_)))
 iterate 2 refine pE rfl ?_
 refine WO.nil (qs ?_)
 refine condK rfl (fun h9 => ?_) (fun h9 => ?_)
 ·
  have hg : textOf j = B #[] := by unfold textOf; rw [if_neg (by simpa using h9)]
  refine W.seq (W.region ?_)
  iterate 3 refine pE rfl ?_
  refine WO.nil (qs (W.ret (qsRet ?_)))
  refine QV.ret0 tab trivial rfl ?_
  rw [hg]; rfl
 ·
  have h0 : checkJ j 1 = 0 := by simpa using h9
  have hg : textOf j = bytesOf (printJ j) := by unfold textOf; rw [if_pos h0]
  have hz0 := hz h0
  refine W.skip (qs (W.seq (W.region ?_)))
  refine allocB tab tU rfl rfl rfl ?_
  refine WO.nil (qs (W.seq (W.region ?_)))
  first | refine pE rfl ?_ | refine pR rfl rfl rfl rfl rfl ?_ | refine pB rfl rfl rfl rfl rfl rfl ?_
  refine callB [1] [2] rfl rfl rfl rfl rfl (((congrArg (fun c => DoesB Tryd.prog 23 [.ptr 0 0, .ag c] [[.np 0 tB false, .bf 1 tU .empty]] 1 (.tup []) [[.np 0 tB true, .bf 1 tU (bytesOf (printJ j))]] 1) (jc_map j)).mp (wprint_fn j 1 h0 false .empty (bytesOf (printJ j)) (bys_inj rfl) (by rw [show (ByteArray.empty).size = 0 from rfl]; omega)))) rfl rfl (by rfl) (by rfl) rfl rfl rfl rfl ?_
  refine WO.nil (qs (W.seq (W.region ?_)))
  refine strEnd hfp rfl rfl rfl rfl bld_st bld_str (by rw [sz_of]; simp only [maxLen]; omega) rfl ?_
  iterate 2 refine pE rfl ?_
  refine WO.nil (qs (W.ret ?_))
  refine QV.ret0 tab trivial rfl ?_
  rw [hg, h0]; rfl
theorem pPrint_fn (j : JV) (hz : checkJ j 1 = 0 → (printJ j).length ≤ 1000000000000) : Does Tryd.prog 11 [.ag j.c] (.tup [.d (.v (.string (textOf j))), .d (.v (.int .i64 (checkJ j 1)))]) 0 := (pPrintH_fn j hz).does fun _ => trivial
end Go.Proofs.YtllkpgnpioojjaaDoor
namespace Go.Proofs.YtllkpgnpioojjaaDoor
open Go.Ab Go.Tb
set_option maxRecDepth 10000
attribute [local irreducible] W WO Pu QS QB QL QF QV QV1 CH QE
abbrev w64 (n : Int) : Int := IntKind.i64.wrap n
abbrev fif (s : ByteArray) : Int := w64 ((s.size : Int).tdiv 50)
def leftKeys : List ByteArray → Int → Int
 | [], n => n
 | s :: r, n => if 0 < n then leftKeys r (w64 (n - fif s)) else n
mutual
def leftJ : JV → Int → Int
 | .mk _ _ s keys kids, m => leftKs kids (leftKeys keys (w64 (w64 (w64 (m - 1) - fif s) - (keys.length : Int))))
def leftKs : List JV → Int → Int
 | [], n => n
 | z :: r, n => if 0 < n then leftKs r (leftJ z n) else n
end
theorem leftJ_eq (j : JV) (m : Int) : leftJ j m = leftKs j.kids (leftKeys j.keys (w64 (w64 (w64 (m - 1) - fif j.s) - (j.keys.length : Int)))) := by cases j; rfl
theorem leftKeys_le {l : List ByteArray} {n : Int} (h : ¬ 0 < n) : leftKeys l n = n := by cases l <;> simp [leftKeys, h]
theorem leftKs_le {l : List JV} {n : Int} (h : ¬ 0 < n) : leftKs l n = n := by cases l <;> simp [leftKs, h]
theorem left_fn : ∀ (j : JV) (m : Int), Does Tryd.prog 22 [.ag j.c, .d (.v (.int .i64 m))] (.d (.v (.int .i64 (leftJ j m)))) 0 := by
 refine JV.ind fun j ih => ?_
 intro m
 rw [jc_map j]
 have hj := leftJ_eq j m
 refine Does.of_W (n := 57) (ts := [4]) Tryd.func22 (by kernel_rfl) rfl Tryd.ntmps22 Tryd.results22 rfl rfl fun C hC hG => ?_
 refine W.seq (W.region ?_)
 refine boxR rfl rfl rfl ?_
 refine pE rfl ?_
 refine WO.nil (qs (W.seq (W.region ?_)))
 iterate 3 refine pE rfl ?_
 first | refine pE rfl ?_ | refine pR rfl rfl rfl rfl rfl ?_ | refine pB rfl rfl rfl rfl rfl rfl ?_
 refine pE rfl ?_
 refine pu (quoR (q := 50) rfl rfl (by decide) (okc_wrap _ _)) rfl ?_
 iterate 2 refine pE rfl ?_
 first | refine pE rfl ?_ | refine pR rfl rfl rfl rfl rfl ?_ | refine pB rfl rfl rfl rfl rfl rfl ?_
 iterate 3 refine pE rfl ?_
 refine WO.nil (qs ?_)
 iterate 2 refine W.seq ?_
 refine W.region ?_
 refine pE rfl ?_
 refine WO.nil (qs (W.block ?_))
 refine lenBox (g := 0) (j := 3) rfl rfl (fun hlen => ?_)
 rw [List.length_map] at hlen
 refine W.loopR (ι := {x : Nat × Int // match x with | (k, n) => k ≤ j.keys.length ∧ leftKeys (j.keys.drop k) n = leftKeys j.keys (w64 (w64 (w64 (m - 1) - fif j.s) - (j.keys.length : Int)))})
  (fun x => match x.1 with | (k, n) => [(1, .d (.v (.int .i64 n))), (2, .ptr 0 0), (5, .d (.v (.int .i64 ((k : Nat) : Int))))]) []
  (fun x => match x.1 with | (k, n) => [(0, [.d (ci j.op), .d (ci j.n), .d (cs j.s), .d (.sl (j.keys.map sc)), .d (.sl (j.kids.map JV.c))])]) [] [] 1 (fun x => match x.1 with | (k, n) => j.keys.length - k)
  [0] ⟨(0, w64 (w64 (w64 (m - 1) - fif j.s) - ((j.keys.map sc).length : Int))), ?_⟩ rfl ?_ trivial ?_ trivial rfl ?_
 · exact ⟨Nat.zero_le _, by rw [List.drop_zero, List.length_map]⟩
 · repeat' first | exact trivial | refine ⟨rfl, ?_⟩ | refine ⟨congrArg some (renL_boxE _ _ _), ?_⟩ | refine ⟨step_nat (by assumption) (by assumption), ?_⟩
 · repeat' first | exact trivial | refine ⟨rfl, ?_⟩ | refine ⟨congrArg some (renL_boxE _ _ _), ?_⟩ | refine ⟨step_nat (by assumption) (by assumption), ?_⟩
 rintro ⟨⟨k, n⟩, hk, hI⟩
 show W _ _ _ _ _ ⟨[(1, .d (.v (.int .i64 n))), (2, .ptr 0 0), (5, .d (.v (.int .i64 ((k : Nat) : Int))))], [(0, [.d (ci j.op), .d (ci j.n), .d (cs j.s), .d (.sl (j.keys.map sc)), .d (.sl (j.kids.map JV.c))])], [], 1⟩
 iterate 2 refine W.seq ?_
 apply regionB; (case hb => rfl)
 ·
  iterate 2 refine pE rfl ?_
  first | refine pE rfl ?_ | refine pR rfl rfl rfl rfl rfl ?_ | refine pB rfl rfl rfl rfl rfl rfl ?_
  iterate 3 refine pE rfl ?_
  apply splitJ; (case hj => rfl); (case hl => rfl)
  ·
   refine goG rfl rfl ?_
   refine pE rfl ?_
   refine goG rfl rfl ?_
   iterate 2 refine pE rfl ?_
   refine WO.nil ?_
   refine qv1 rfl rfl rfl
  ·
   iterate 2 refine skipT rfl rfl rfl rfl ?_
   refine pE rfl ?_
   refine WO.nil ?_
   refine qv1 rfl rfl rfl
 refine qs ?_
 refine condK rfl (fun h26 => ?_) (fun h26 => ?_)
 ·
  have q26 : k < j.keys.length ∧ 0 < n := by simp only [List.length_map] at h26; revert h26; simp; try omega
  obtain ⟨s, hx⟩ : ∃ s, j.keys[k]? = some s := ⟨j.keys[k], by simp [q26.1]⟩
  have hd := List.drop_eq_getElem_cons q26.1
  rw [(List.getElem?_eq_some_iff.1 hx).2] at hd
  rw [hd, leftKeys, if_pos q26.2] at hI
  have hlt := q26.1
  refine W.skip (qs (W.seq (W.block (W.region ?_))))
  iterate 2 refine pE rfl ?_
  first | refine pE rfl ?_ | refine pR rfl rfl rfl rfl rfl ?_ | refine pB rfl rfl rfl rfl rfl rfl ?_
  refine pE rfl ?_
  refine pu (indexAddr (l := sc s) tab rfl rfl rfl rfl rfl rfl (Int.natCast_nonneg _) (idx_map hx) rfl) rfl ?_
  first | refine pE rfl ?_ | refine pR rfl rfl rfl rfl rfl ?_ | refine pB rfl rfl rfl rfl rfl rfl ?_
  refine pE rfl ?_
  refine pu (quoR (q := 50) rfl rfl (by decide) (okc_wrap _ _)) rfl ?_
  iterate 2 refine pE rfl ?_
  refine WO.nil (qbN (qs (W.region ?_)))
  iterate 3 refine pE rfl ?_
  refine WO.nil ?_
  refine W.endR [0] ⟨(k + 1, w64 (n - fif s)), ?_⟩ ?_ rfl ?_ trivial ?_ trivial rfl
  · exact ⟨hlt, hI⟩
  · dsimp only; omega
  · repeat' first | exact trivial | refine ⟨rfl, ?_⟩ | refine ⟨congrArg some (renL_boxE _ _ _), ?_⟩ | refine ⟨step_nat (by assumption) (by assumption), ?_⟩
  · repeat' first | exact trivial | refine ⟨rfl, ?_⟩ | refine ⟨congrArg some (renL_boxE _ _ _), ?_⟩ | refine ⟨step_nat (by assumption) (by assumption), ?_⟩
 ·
  have hI2 : n = leftKeys j.keys (w64 (w64 (w64 (m - 1) - fif j.s) - (j.keys.length : Int))) := by
   rw [← hI]
   by_cases q1 : 0 < n
   ·
    have q2 : j.keys.length ≤ k := by simp only [List.length_map] at h26; revert h26; simp; omega
    rw [List.drop_eq_nil_of_le q2]; rfl
   · exact (leftKeys_le q1).symm
  refine W.exit (qsExit (qlExit (qbExit (qs ?_))))
  iterate 2 refine W.seq ?_
  refine W.region ?_
  refine pE rfl ?_
  refine WO.nil (qs (W.block ?_))
  refine lenBox (g := 0) (j := 4) rfl rfl (fun hlen2 => ?_)
  rw [List.length_map] at hlen2
  refine W.loopR (ι := {x : Nat × Int // match x with | (k, n) => k ≤ j.kids.length ∧ leftKs (j.kids.drop k) n = leftJ j m})
   (fun x => match x.1 with | (k, n) => [(1, .d (.v (.int .i64 n))), (2, .ptr 0 0), (6, .d (.v (.int .i64 ((k : Nat) : Int))))]) []
   (fun x => match x.1 with | (k, n) => [(0, [.d (ci j.op), .d (ci j.n), .d (cs j.s), .d (.sl (j.keys.map sc)), .d (.sl (j.kids.map JV.c))])]) [] [] 1 (fun x => match x.1 with | (k, n) => j.kids.length - k)
   [0] ⟨(0, n), ?_⟩ rfl ?_ trivial ?_ trivial rfl ?_
  · exact ⟨Nat.zero_le _, by rw [List.drop_zero, hj, hI2]⟩
  · repeat' first | exact trivial | refine ⟨rfl, ?_⟩ | refine ⟨congrArg some (renL_boxE _ _ _), ?_⟩ | refine ⟨step_nat (by assumption) (by assumption), ?_⟩
  · repeat' first | exact trivial | refine ⟨rfl, ?_⟩ | refine ⟨congrArg some (renL_boxE _ _ _), ?_⟩ | refine ⟨step_nat (by assumption) (by assumption), ?_⟩
  rintro ⟨⟨k, n⟩, hk, hI⟩
  show W _ _ _ _ _ ⟨[(1, .d (.v (.int .i64 n))), (2, .ptr 0 0), (6, .d (.v (.int .i64 ((k : Nat) : Int))))], [(0, [.d (ci j.op), .d (ci j.n), .d (cs j.s), .d (.sl (j.keys.map sc)), .d (.sl (j.kids.map JV.c))])], [], 1⟩
  iterate 2 refine W.seq ?_
  apply regionB; (case hb => rfl)
  ·
   iterate 2 refine pE rfl ?_
   first | refine pE rfl ?_ | refine pR rfl rfl rfl rfl rfl ?_ | refine pB rfl rfl rfl rfl rfl rfl ?_
   iterate 3 refine pE rfl ?_
   apply splitJ; (case hj => rfl); (case hl => rfl)
   ·
    refine goG rfl rfl ?_
    refine pE rfl ?_
    refine goG rfl rfl ?_
    iterate 2 refine pE rfl ?_
    refine WO.nil ?_
    refine qv1 rfl rfl rfl
   ·
    iterate 2 refine skipT rfl rfl rfl rfl ?_
    refine pE rfl ?_
    refine WO.nil ?_
    refine qv1 rfl rfl rfl
  refine qs ?_
  refine condK rfl (fun h46 => ?_) (fun h46 => ?_)
  ·
   have q46 : k < j.kids.length ∧ 0 < n := by simp only [List.length_map] at h46; revert h46; simp; try omega
   obtain ⟨z, hx⟩ : ∃ z, j.kids[k]? = some z := ⟨j.kids[k], by simp [q46.1]⟩
   have hd := List.drop_eq_getElem_cons q46.1
   rw [(List.getElem?_eq_some_iff.1 hx).2] at hd
   rw [hd, leftKs, if_pos q46.2] at hI
   have hlt := q46.1
   have hxc := ih z (List.mem_of_getElem? hx) n
   refine W.skip (qs (W.seq (W.block (W.region ?_))))
   refine pE rfl ?_
   first | refine pE rfl ?_ | refine pR rfl rfl rfl rfl rfl ?_ | refine pB rfl rfl rfl rfl rfl rfl ?_
   refine pE rfl ?_
   refine pu (indexAddr (l := z.c) tab rfl rfl rfl rfl rfl rfl (Int.natCast_nonneg _) (idx_map hx) rfl) rfl ?_
   first | refine pE rfl ?_ | refine pR rfl rfl rfl rfl rfl ?_ | refine pB rfl rfl rfl rfl rfl rfl ?_
   refine pE rfl ?_
   refine pu (puCall rfl rfl rfl hxc rfl) rfl ?_
   refine pE rfl ?_
   refine WO.nil (qbN (qs (W.region ?_)))
   iterate 3 refine pE rfl ?_
   refine WO.nil ?_
   refine W.endR [0] ⟨(k + 1, leftJ z n), ?_⟩ ?_ rfl ?_ trivial ?_ trivial rfl
   · exact ⟨hlt, hI⟩
   · dsimp only; omega
   · repeat' first | exact trivial | refine ⟨rfl, ?_⟩ | refine ⟨congrArg some (renL_boxE _ _ _), ?_⟩ | refine ⟨step_nat (by assumption) (by assumption), ?_⟩
   · repeat' first | exact trivial | refine ⟨rfl, ?_⟩ | refine ⟨congrArg some (renL_boxE _ _ _), ?_⟩ | refine ⟨step_nat (by assumption) (by assumption), ?_⟩
  ·
   have hI3 : n = leftJ j m := by
    rw [← hI]
    by_cases q1 : 0 < n
    ·
     have q2 : j.kids.length ≤ k := by simp only [List.length_map] at h46; revert h46; simp; omega
     rw [List.drop_eq_nil_of_le q2]; rfl
    · exact (leftKs_le q1).symm
   refine W.exit (qsExit (qlExit (qbExit (qs (W.seq (W.region ?_))))))
   iterate 2 refine pE rfl ?_
   refine WO.nil (qs (W.ret ?_))
   refine QF.ret0 trivial rfl ?_
   rw [← hI3]; rfl
def smallJ (j : JV) : Bool := decide (0 < leftJ j 1000)
theorem small_fn (j : JV) : Does Tryd.prog 9 [.ag j.c] (.d (.v (.bool (smallJ j)))) 0 := by
 have h := left_fn j 1000
 rw [jc_map j] at h ⊢
 refine Does.of_W (n := 6) (ts := [2]) Tryd.func9 (by kernel_rfl) rfl Tryd.ntmps9 Tryd.results9 rfl rfl fun C hC hG => ?_
 refine W.seq (W.region ?_)
 refine boxR rfl rfl rfl ?_
 refine pE rfl ?_
 refine WO.nil (qs (W.seq (W.region ?_)))
 first | refine pE rfl ?_ | refine pR rfl rfl rfl rfl rfl ?_ | refine pB rfl rfl rfl rfl rfl rfl ?_
 refine pu (puCall rfl rfl rfl h rfl) rfl ?_
 iterate 2 refine pE rfl ?_
 refine WO.nil (qs (W.ret ?_))
 refine QF.ret0 trivial rfl ?_
 rfl
end Go.Proofs.YtllkpgnpioojjaaDoor
