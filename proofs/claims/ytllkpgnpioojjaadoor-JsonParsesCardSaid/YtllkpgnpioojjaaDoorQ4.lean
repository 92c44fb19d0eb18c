import Derived.Test.YtllkpgnpioojjaaDoorQ3
import Derived.Test.YtllkpgnpioojjaaDoorChecked
import Derived.KernelRfl
import Derived.Test.YtllkpgnpioojjaaDoorRows
import Derived.Shelf.Strings.Builder1
import Derived.Shelf.Small.Strs
import Derived.Shelf.Strconv.Atoi
import Derived.Shelf.Strconv.Itoa0
import Derived.Shelf.Strconv.Itoa1
import Derived.Shelf.LaysM
import Derived.Shelf.Strconv.Itoa2
import Derived.Shelf.Strconv.Itoa3
import Derived.Shelf.Strconv.AtoiErrFast
import Derived.Shelf.Strconv.ParseIntEmpty
import Derived.Shelf.Strconv.AtoiFail
import Derived.Shelf.Strconv.Clone
import Derived.Shelf.Strconv.SyntaxError
import Derived.Shelf.LaysC
import Derived.Shelf.Strconv.ToError
import Derived.Shelf.Strconv.AtoiErr
import Derived.Shelf.Strconv.ErrVar
import Derived.Shelf.Strconv.Lower
import Derived.Shelf.Strconv.ParseUint10
import Derived.Shelf.Strconv.ParseUint10Empty
import Derived.Shelf.Strconv.ParseUint10Any
import Derived.Shelf.Strconv.ParseInt10
import Derived.Shelf.Strconv.AtoiLong
import Derived.Shelf.Strconv.AtoiInnerAll
import Derived.Shelf.Strconv.RangeError
import Derived.Shelf.Strconv.ToErrorRange
import Derived.Shelf.Strconv.AtoiAll
import Derived.Shelf.Strconv.ErrVarAll
import Derived.Shelf.Strings.Search1
import Derived.Shelf.Slices.Equal
import Derived.Shelf.Slices.Empties2
import Derived.Test.YtllkpgnpioojjaaDoorProg
import Derived.Lib.Strings
import Derived.Lib.Slices
import Derived.Lib.Walk
import Derived.Lib.Builder
import Derived.Lib.UnsafeStr
import Derived.WalkKit
import Derived.Laws.Externs
import Derived.Laws.IdiomCopy
namespace Go.Proofs.YtllkpgnpioojjaaDoor
open Go.Ab
abbrev tabL : List (Nat × TyD) := [
 (2, ⟨.int .i64, 1, 8, [.int .i64 0]⟩),
 (3, ⟨.int .i64, 1, 8, [.int .i64 0]⟩),
 (4, ⟨.bool, 1, 1, [.bool false]⟩),
 (5, ⟨.int .u8, 1, 1, [.int .u8 0]⟩),
 (9, ⟨.str, 1, 16, [.string ⟨#[]⟩]⟩),
 (12, ⟨.int .u64, 1, 8, [.int .u64 0]⟩),
 (21, ⟨.int .i32, 1, 4, [.int .i32 0]⟩),
 (22, ⟨.int .i64, 1, 8, [.int .i64 0]⟩),
 (23, ⟨.slice 9, 1, 24, [.slice none 0 0]⟩),
 (24, ⟨.slice 26, 1, 24, [.slice none 0 0]⟩),
 (26, ⟨.st [(0, 22, "Op"), (1, 3, "N"), (2, 9, "S"), (3, 23, "Keys"), (4, 24, "Kids")], 5, 80, [.int .i64 0, .int .i64 0, .string ⟨#[]⟩, .slice none 0 0, .slice none 0 0]⟩),
 (29, ⟨.int .i64, 1, 8, [.int .i64 0]⟩),
 (45, ⟨.ptr 48, 1, 8, [.pointer none]⟩),
 (46, ⟨.slice 5, 1, 24, [.slice none 0 0]⟩),
 (48, ⟨.st [(0, 45, "addr"), (1, 46, "buf")], 2, 32, [.pointer none, .slice none 0 0]⟩),
 (57, ⟨.st [(0, 3, "at"), (1, 29, "why")], 2, 16, [.int .i64 0, .int .i64 0]⟩),
 (59, ⟨.ptr 61, 1, 8, [.pointer none]⟩),
 (61, ⟨.st [(0, 9, "s"), (1, 3, "at")], 2, 24, [.string ⟨#[]⟩, .int .i64 0]⟩),
 (65, ⟨.ptr 67, 1, 8, [.pointer none]⟩),
 (67, ⟨.st [(0, 9, "S"), (1, 3, "At"), (2, 3, "Pos"), (3, 29, "Err")], 4, 40, [.string ⟨#[]⟩, .int .i64 0, .int .i64 0, .int .i64 0]⟩),
 (76, ⟨.ptr 5, 1, 8, [.pointer none]⟩),
 (87, ⟨.map 9 4, 1, 8, [.map none]⟩),
 (100, ⟨.int .u64, 1, 8, [.int .u64 0]⟩),
 (105, ⟨.int .i64, 1, 8, [.int .i64 0]⟩),
 (108, ⟨.ptr 121, 1, 8, [.pointer none]⟩),
 (114, ⟨.int .u32, 1, 4, [.int .u32 0]⟩),
 (116, ⟨.int .u64, 1, 8, [.int .u64 0]⟩),
 (125, ⟨.ptr 127, 1, 8, [.pointer none]⟩),
 (127, ⟨.st [(0, 9, "s")], 1, 16, [.string ⟨#[]⟩]⟩)]
theorem tab_ok : tabL.all (fun x => tyOK Tryd.prog x.1 x.2) = true := by kernel_rfl
abbrev tab : Tab Tryd.prog := ⟨tabL, tab_ok, by kernel_rfl⟩
instance progMet : Go.Ab.Met Tryd.prog := ⟨fun W => MetNum Tryd.prog W⟩
section
variable {C : Ctx} {n : Nat} {ops : Array Oper} {Q : Exit → St → Prop} {rest : List Oper} {f : List (Nat × A)} {bx : List (Nat × List A)} {lv : List Nat} {gen d : Nat} {ty : TypeId} {pos : String} {af : Array Edge} {a : A}
theorem pE {op : Op} (h : Bool.rec (motive := fun _ => Option A) none (evPu tab f bx op) (Nat.blt d n) = some a) (k : WO Tryd.prog C n ops Q rest ⟨(d, a) :: f, bx, lv, gen⟩) : WO Tryd.prog C n ops Q (⟨some d, op, ty, pos, af, none⟩ :: rest) ⟨f, bx, lv, gen⟩ := by
  cases hb : Nat.blt d n with
  | false => rw [hb] at h; exact absurd h (by simp)
  | true => rw [hb] at h; exact pu (ev tab h) hb k
theorem pR {t : Nat} {x : Operand} {td : TyD} {l : List D} (ht : look' tab.l t = some td) (hk : td.k.agg = true) (hx : av f x = some (.rowd l)) (hl : l.length = td.n) (hd : Nat.blt d n = true) (k : WO Tryd.prog C n ops Q rest ⟨(d, .ag l) :: f, bx, lv, gen⟩) : WO Tryd.prog C n ops Q (⟨some d, .load t x, ty, pos, af, none⟩ :: rest) ⟨f, bx, lv, gen⟩ := pu (loadRow tab ht hk hx hl) hd k
theorem pB {t : Nat} {x : Operand} {td : TyD} {g : Nat} {l : List D} (ht : look' tab.l t = some td) (hk : td.k.agg = true) (hx : av f x = some (.ptr g 0)) (hb : look' bx g = some (l.map A.d)) (hl : l.length = td.n) (hd : Nat.blt d n = true) (k : WO Tryd.prog C n ops Q rest ⟨(d, .ag l) :: f, bx, lv, gen⟩) : WO Tryd.prog C n ops Q (⟨some d, .load t x, ty, pos, af, none⟩ :: rest) ⟨f, bx, lv, gen⟩ := pu (loadBox tab ht hk hx hb hl) hd k
end
end Go.Proofs.YtllkpgnpioojjaaDoor
namespace Go.Proofs.YtllkpgnpioojjaaDoor
open Go.Ab
theorem lmet (W : World) (h : laidMet Tryd.prog Rows.jsonParsesRow.laid W) : MetNum Tryd.prog W :=
 metNum_of (t := 113) (e := 100) (m := 20) (ti := 70) h (d := Rows.laid_internal_strconv_uint64pow10) (.tail _ (.tail _ (.head _))) (by kernel_rfl) (by kernel_rfl) (by kernel_rfl) (by kernel_rfl) (by kernel_rfl) (by kernel_rfl)
  (nm := "*errors.errorString") (nm' := "*errors.errorString") (.tail _ (.tail _ (.tail _ (.tail _ (.head _))))) (.tail _ (.tail _ (.tail _ (.head _)))) (by kernel_rfl) (by kernel_rfl) (by kernel_rfl)
end Go.Proofs.YtllkpgnpioojjaaDoor
namespace Go.Proofs.YtllkpgnpioojjaaDoor
open Go.Ab Go.Tb
set_option maxRecDepth 10000
attribute [local irreducible] W WO Pu QS QB QL QF QV QV1 CH QE
theorem in_fn (n : Int) : Does Tryd.prog 44 [.d (.v (.int .i64 n))] (.d (.v (.bool (inR n)))) 0 := by
 refine Does.of_W (n := 9) (ts := [2]) Tryd.func44 (by kernel_rfl) rfl Tryd.ntmps44 Tryd.results44 rfl rfl fun C hC hG => ?_
 refine W.seq (W.region ?_)
 refine pE rfl ?_
 refine WO.nil (qs (W.seq ?_))
 apply regionB; (case hb => rfl)
 ·
  iterate 3 refine pE rfl ?_
  apply splitJ; (case hj => rfl); (case hl => rfl)
  ·
   refine goG rfl rfl ?_
   refine pE rfl ?_
   refine goG rfl rfl ?_
   iterate 3 refine pE rfl ?_
   refine WO.nil ?_
   refine qv1 rfl rfl rfl
  ·
   iterate 2 refine skipT rfl rfl rfl rfl ?_
   iterate 2 refine pE rfl ?_
   refine WO.nil ?_
   refine qv1 rfl rfl rfl
 refine qs (W.ret ?_)
 refine QF.ret0 trivial rfl ?_
 simp [norm, oneA, inR]
end Go.Proofs.YtllkpgnpioojjaaDoor
namespace Go.Proofs.YtllkpgnpioojjaaDoor
open Go.Ab Go.Tb
set_option maxRecDepth 10000
attribute [local irreducible] W WO Pu QS QB QL QF QV QV1 CH QE
theorem idxStr_fn (fid : Nat) (caps : List A) (hc : Still caps) (p : ByteArray → Bool) (hp : ∀ x : ByteArray, Does Tryd.prog fid (.d (.v (.string x)) :: caps) (.d (.v (.bool (p x)))) 0) (l : List ByteArray) :
  Does Tryd.prog 66 [.d (.sl (l.map sc)), .clo fid caps] (.d (.v (.int .i64 (idx (l.findIdx? p))))) 0 := by
 refine Does.of_W (n := 19) (ts := [4]) Tryd.func66 (by kernel_rfl) rfl Tryd.ntmps66 Tryd.results66 rfl rfl fun C hC hG => ?_
 refine W.seq (W.region ?_)
 refine pE rfl ?_
 refine WO.nil (qs ?_)
 iterate 2 refine W.seq ?_
 refine W.region ?_
 iterate 3 refine pE rfl ?_
 refine WO.nil (qs (W.block ?_))
 refine W.len (t := 0) rfl rfl (fun hlen => ?_)
 try simp only [List.length_map, Ex.kc_len] at hlen
 refine W.loopR (ι := {x : Nat // match x with | k => k ≤ l.length ∧ noneBefore p l k})
  (fun x => match x.1 with | k => [(8, .d (.v (.int .i64 ((k : Nat) : Int))))]) [(0, _), (1, _), (7, _)]
  (fun x => match x.1 with | k => []) [] [] 0 (fun x => match x.1 with | k => l.length - k)
  [] ⟨0, ?_⟩ rfl ?_ ⟨rfl, (by first | rfl | exact hc.2), rfl, (by first | rfl | exact hc.2), rfl, (by first | rfl | exact hc.2), trivial⟩ ?_ trivial rfl ?_
 · exact ⟨Nat.zero_le _, noneBefore.zero⟩
 · repeat' first | exact trivial | refine ⟨rfl, ?_⟩ | refine ⟨congrArg some (renL_boxE _ _ _), ?_⟩ | refine ⟨step_nat (by assumption) (by assumption), ?_⟩
 · repeat' first | exact trivial | refine ⟨rfl, ?_⟩ | refine ⟨congrArg some (renL_boxE _ _ _), ?_⟩ | refine ⟨step_nat (by assumption) (by assumption), ?_⟩
 rintro ⟨k, hk, hI⟩
 show W _ _ _ _ _ ⟨[(8, .d (.v (.int .i64 ((k : Nat) : Int)))), (0, _), (1, _), (7, _)], [], [], 0⟩
 refine W.seq (W.region ?_)
 refine pE rfl ?_
 refine WO.nil (qs (W.seq ?_))
 refine eachR (l := l) (k := k) rfl (by simp [Ex.kc_len, bytes_len]) hk (fun x hx hd hlt => ?_) (fun he hd => ?_)
 ·
  refine W.skip (qs (W.seq (W.block (W.seq (W.region ?_)))))
  iterate 2 refine pE rfl ?_
  refine WO.nil (qs (W.seq (W.region ?_)))
  iterate 3 refine pE rfl ?_
  refine pu (indexAddr tab rfl rfl rfl rfl rfl rfl (Int.natCast_nonneg _) (idx_map (by assumption)) rfl) rfl ?_
  first | refine pE rfl ?_ | refine pR rfl rfl rfl rfl rfl ?_ | refine pB rfl rfl rfl rfl rfl rfl ?_
  refine pu (puCall rfl rfl (by rw [List.map_append, hc.1 _ 3]; rfl) (hp x) rfl) rfl ?_
  refine WO.nil (qs ?_)
  refine condK rfl (fun h16 => ?_) (fun h16 => ?_)
  ·
   refine W.seq (W.region ?_)
   iterate 2 refine pE rfl ?_
   refine WO.nil (qs (W.ret (qbRet (qsRet (qlRet (qbRet (qsRet ?_)))))))
   refine QF.ret0 trivial rfl ?_
   simp only [norm, oneA]; rw [hI.found hx h16]; rfl
  ·
   refine W.skip (qbN (qs (W.region ?_)))
   iterate 2 refine pE rfl ?_
   refine WO.nil ?_
   refine W.endR [] ⟨k + 1, ?_⟩ ?_ rfl ?_ ⟨rfl, (by first | rfl | exact hc.2), rfl, (by first | rfl | exact hc.2), rfl, (by first | rfl | exact hc.2), trivial⟩ ?_ trivial rfl
   · exact ⟨hlt, hI.step hx h16⟩
   · dsimp only; omega
   · repeat' first | exact trivial | refine ⟨rfl, ?_⟩ | refine ⟨congrArg some (renL_boxE _ _ _), ?_⟩ | refine ⟨step_nat (by assumption) (by assumption), ?_⟩
   · repeat' first | exact trivial | refine ⟨rfl, ?_⟩ | refine ⟨congrArg some (renL_boxE _ _ _), ?_⟩ | refine ⟨step_nat (by assumption) (by assumption), ?_⟩
 ·
  refine W.exit (qsExit (qlExit (qbExit (qs (W.seq (W.region ?_))))))
  refine pE rfl ?_
  refine WO.nil (qs (W.ret ?_))
  refine QF.ret0 trivial rfl ?_
  simp only [norm, oneA]; rw [hI.end_ he]; rfl
theorem index_fn (l : List ByteArray) (s : ByteArray) : Does Tryd.prog 26 [.d (.sl (l.map sc)), .d (.v (.string s))] (.d (.v (.int .i64 (idx (l.findIdx? fun x => decide (s = x)))))) 0 := by
 refine Does.of_W (n := 19) (ts := [4]) Tryd.func26 (by kernel_rfl) rfl Tryd.ntmps26 Tryd.results26 rfl rfl fun C hC hG => ?_
 refine W.seq (W.region ?_)
 refine pE rfl ?_
 refine WO.nil (qs ?_)
 iterate 2 refine W.seq ?_
 refine W.region ?_
 iterate 3 refine pE rfl ?_
 refine WO.nil (qs (W.block ?_))
 refine W.len (t := 0) rfl rfl (fun hlen => ?_)
 try simp only [List.length_map, Ex.kc_len] at hlen
 refine W.loopR (ι := {x : Nat // match x with | k => k ≤ l.length ∧ noneBefore (fun x => decide (s = x)) l k})
  (fun x => match x.1 with | k => [(8, .d (.v (.int .i64 ((k : Nat) : Int))))]) [(0, _), (1, _), (7, _)]
  (fun x => match x.1 with | k => []) [] [] 0 (fun x => match x.1 with | k => l.length - k)
  [] ⟨0, ?_⟩ rfl ?_ ⟨rfl, rfl, rfl, rfl, rfl, rfl, trivial⟩ ?_ trivial rfl ?_
 · exact ⟨Nat.zero_le _, noneBefore.zero⟩
 · repeat' first | exact trivial | refine ⟨rfl, ?_⟩ | refine ⟨congrArg some (renL_boxE _ _ _), ?_⟩ | refine ⟨step_nat (by assumption) (by assumption), ?_⟩
 · repeat' first | exact trivial | refine ⟨rfl, ?_⟩ | refine ⟨congrArg some (renL_boxE _ _ _), ?_⟩ | refine ⟨step_nat (by assumption) (by assumption), ?_⟩
 rintro ⟨k, hk, hI⟩
 show W _ _ _ _ _ ⟨[(8, .d (.v (.int .i64 ((k : Nat) : Int)))), (0, _), (1, _), (7, _)], [], [], 0⟩
 refine W.seq (W.region ?_)
 refine pE rfl ?_
 refine WO.nil (qs (W.seq ?_))
 refine eachR (l := l) (k := k) rfl (by simp [Ex.kc_len, bytes_len]) hk (fun x hx hd hlt => ?_) (fun he hd => ?_)
 ·
  refine W.skip (qs (W.seq (W.block (W.seq (W.region ?_)))))
  iterate 2 refine pE rfl ?_
  refine WO.nil (qs (W.seq (W.region ?_)))
  iterate 3 refine pE rfl ?_
  refine pu (indexAddr tab rfl rfl rfl rfl rfl rfl (Int.natCast_nonneg _) (idx_map (by assumption)) rfl) rfl ?_
  first | refine pE rfl ?_ | refine pR rfl rfl rfl rfl rfl ?_ | refine pB rfl rfl rfl rfl rfl rfl ?_
  refine pE rfl ?_
  refine WO.nil (qs ?_)
  refine condK rfl (fun h16 => ?_) (fun h16 => ?_)
  ·
   refine W.seq (W.region ?_)
   iterate 2 refine pE rfl ?_
   refine WO.nil (qs (W.ret (qbRet (qsRet (qlRet (qbRet (qsRet ?_)))))))
   refine QF.ret0 trivial rfl ?_
   simp only [norm, oneA]; rw [hI.found hx h16]; rfl
  ·
   refine W.skip (qbN (qs (W.region ?_)))
   iterate 2 refine pE rfl ?_
   refine WO.nil ?_
   refine W.endR [] ⟨k + 1, ?_⟩ ?_ rfl ?_ ⟨rfl, rfl, rfl, rfl, rfl, rfl, trivial⟩ ?_ trivial rfl
   · exact ⟨hlt, hI.step hx h16⟩
   · dsimp only; omega
   · repeat' first | exact trivial | refine ⟨rfl, ?_⟩ | refine ⟨congrArg some (renL_boxE _ _ _), ?_⟩ | refine ⟨step_nat (by assumption) (by assumption), ?_⟩
   · repeat' first | exact trivial | refine ⟨rfl, ?_⟩ | refine ⟨congrArg some (renL_boxE _ _ _), ?_⟩ | refine ⟨step_nat (by assumption) (by assumption), ?_⟩
 ·
  refine W.exit (qsExit (qlExit (qbExit (qs (W.seq (W.region ?_))))))
  refine pE rfl ?_
  refine WO.nil (qs (W.ret ?_))
  refine QF.ret0 trivial rfl ?_
  simp only [norm, oneA]; rw [hI.end_ he]; rfl
theorem containsStr_fn (fid : Nat) (caps : List A) (hc : Still caps) (p : ByteArray → Bool) (hp : ∀ x : ByteArray, Does Tryd.prog fid (.d (.v (.string x)) :: caps) (.d (.v (.bool (p x)))) 0) (l : List ByteArray) :
  Does Tryd.prog 46 [.d (.sl (l.map sc)), .clo fid caps] (.d (.v (.bool (l.any p)))) 0 := by
 refine Does.of_W (n := 9) (ts := [4]) Tryd.func46 (by kernel_rfl) rfl Tryd.ntmps46 Tryd.results46 rfl rfl fun C hC hG => ?_
 refine W.seq (W.region ?_)
 refine pE rfl ?_
 refine WO.nil (qs (W.seq (W.region ?_)))
 iterate 2 refine pE rfl ?_
 refine pu (puCall (args := [.d (.sl (l.map sc)), .clo fid caps]) rfl rfl (by simp [conv, hc.1 _ 2]) (idxStr_fn fid caps hc p hp l) rfl) rfl ?_
 iterate 2 refine pE rfl ?_
 refine WO.nil (qs (W.ret ?_))
 refine QF.ret0 trivial rfl ?_
 simp only [norm, oneA]; rw [← idx_nonneg]
end Go.Proofs.YtllkpgnpioojjaaDoor
namespace Go.Proofs.YtllkpgnpioojjaaDoor
open Go.Ab Go.Tb
set_option maxRecDepth 10000
attribute [local irreducible] W WO Pu QS QB QL QF QV QV1 CH QE
theorem ixb_fn (s : ByteArray) (b : UInt8) : Does Tryd.prog 74 [.d (.v (.string s)), .d (.v (.int .u8 b.toNat))] (.d (.v (.int .i64 (Lib.indexByte (bys s) b)))) 0 := by
 refine Does.of_W (n := 8) (ts := [4]) Tryd.func74 (by kernel_rfl) rfl Tryd.ntmps74 Tryd.results74 rfl rfl fun C hC hG => ?_
 refine W.inRange (t := 0) rfl (fun hok => ?_)
 refine W.seq (W.region ?_)
 refine pE rfl ?_
 refine WO.nil (qs (W.seq (W.region ?_)))
 iterate 2 refine pE rfl ?_
 refine pu (puExt (vs := [.string s, .int .u8 b.toNat]) rfl rfl (fun w => (run_callFunc_extern Tryd.func84 (by kernel_rfl) (by kernel_rfl) (by kernel_rfl) (by kernel_rfl) #[.string s, .int .u8 b.toNat] w).trans (by rw [show (Extern.BytealgIndexByte.indexByte #[.string s, .int .u8 b.toNat]).run Tryd.prog w = _ from Lib.run_indexByteString s b.toNat w]; rfl)) (indexByte_ok hok _)) rfl ?_
 refine pE rfl ?_
 refine WO.nil (qs (W.ret ?_))
 refine QF.ret0 trivial rfl ?_
 simp [norm, oneA, bys]
theorem sixb_fn (s : ByteArray) (b : UInt8) : Does Tryd.prog 55 [.d (.v (.string s)), .d (.v (.int .u8 b.toNat))] (.d (.v (.int .i64 (Lib.indexByte (bys s) b)))) 0 := by
 refine Does.of_W (n := 8) (ts := [4]) Tryd.func55 (by kernel_rfl) rfl Tryd.ntmps55 Tryd.results55 rfl rfl fun C hC hG => ?_
 refine W.seq (W.region ?_)
 refine pE rfl ?_
 refine WO.nil (qs (W.seq (W.region ?_)))
 iterate 2 refine pE rfl ?_
 refine pu (puCall rfl rfl rfl (ixb_fn ..) rfl) rfl ?_
 refine pE rfl ?_
 refine WO.nil (qs (W.ret ?_))
 refine QF.ret0 trivial rfl ?_
 rfl
end Go.Proofs.YtllkpgnpioojjaaDoor
namespace Go.Proofs
open Go.Shelf
def Tryd.lays169_ren : Go.Shelf.Ren := ⟨fun | 169 => 24 | n => n, fun | 70 => 45 | 9 => 9 | 0 => 0 | 72 => 48 | 37 => 46 | 127 => 76 | 3 => 3 | 5 => 5 | n => n, fun | n => n⟩
theorem Tryd.lays169 : Go.Proofs.Lays.n169 Tryd.prog Tryd.lays169_ren := {
 mixed := by kernel_rfl
 f169 := Tryd.func24.trans (congrArg some (by kernel_rfl))
 t0 := Tryd.underlying0
 a0 := Tryd.isAgg0
 z0 := Tryd.sizeOf0
 v0 := Tryd.zeroValue0
 t3 := Tryd.underlying3
 a3 := Tryd.isAgg3
 z3 := Tryd.sizeOf3
 v3 := Tryd.zeroValue3
 t9 := Tryd.underlying9
 a9 := Tryd.isAgg9
 z9 := Tryd.sizeOf9
 v9 := Tryd.zeroValue9
 t37 := Tryd.underlying46
 a37 := Tryd.isAgg46
 z37 := Tryd.sizeOf46
 v37 := Tryd.zeroValue46
 t70 := Tryd.underlying45
 a70 := Tryd.isAgg45
 z70 := Tryd.sizeOf45
 v70 := Tryd.zeroValue45
 t72 := Tryd.underlying48
 a72 := Tryd.isAgg48
 z72 := Tryd.sizeOf48
 v72 := Tryd.zeroValue48
 t127 := Tryd.underlying76
 a127 := Tryd.isAgg76
 z127 := Tryd.sizeOf76
 v127 := Tryd.zeroValue76 }
theorem Tryd.Builder_Extra_169 : Builder.Extra Tryd.prog Tryd.lays169_ren := {
 sizeBuilder := by kernel_rfl
 liesBuilder := by kernel_rfl
 t5 := Tryd.underlying5
 a5 := Tryd.isAgg5
 z5 := Tryd.sizeOf5
 v5 := Tryd.zeroValue5
 infoByte := by kernel_rfl
 cellsByte := by kernel_rfl
 sizeByte := by kernel_rfl
 neB5 := by decide }
open Go.RowKit in
theorem Tryd.Builder_String_any (B b : Nat) (l : List UInt8) (w : World) (h : Lib.IsBuilder 48 5 B b (Lib.byteCells l) w) (hBw : B ≤ w.heap.size) :
  Calls Tryd.prog 24 #[.pointer (some ⟨b, 0, none⟩)] w fun e w' => e = .returned (.string ⟨l.toArray⟩) ∧ Below B w w' := Any.Builder_String_any Tryd.lays169 Tryd.Builder_Extra_169 B b l w h hBw
def Tryd.laysM171_ren : Go.Shelf.Ren := ⟨fun | 171 => 64 | 243 => 79 | 246 => 86 | 283 => 90 | 284 => 91 | 285 => 92 | 286 => 93 | 129 => 100 | 317 => 99 | 318 => 101 | 319 => 102 | 320 => 103 | 337 => 107 | 338 => 108 | n => n, fun | 3 => 3 | 9 => 9 | 2 => 2 | 4 => 4 | 171 => 99 | 0 => 0 | 53 => 100 | 37 => 46 | 5 => 5 | 173 => 103 | 212 => 113 | 51 => 114 | 20 => 20 | 213 => 115 | 46 => 116 | 232 => 128 | 233 => 129 | n => n, fun | 17 => 1 | 18 => 4 | 19 => 5 | n => n⟩
theorem Tryd.laysM171 : Go.Proofs.LaysM.n171 Tryd.prog Tryd.laysM171_ren := {
 mixed := by kernel_rfl
 f129 := Tryd.func100.trans (congrArg some (by kernel_rfl))
 f171 := Tryd.func64.trans (congrArg some (by kernel_rfl))
 f243 := Tryd.func79.trans (congrArg some (by kernel_rfl))
 f246 := Tryd.func86.trans (congrArg some (by kernel_rfl))
 f283 := Tryd.func90.trans (congrArg some (by kernel_rfl))
 f284 := Tryd.func91.trans (congrArg some (by kernel_rfl))
 f285 := Tryd.func92.trans (congrArg some (by kernel_rfl))
 f286 := Tryd.func93.trans (congrArg some (by kernel_rfl))
 f317 := Tryd.func99.trans (congrArg some (by kernel_rfl))
 f318 := Tryd.func101.trans (congrArg some (by kernel_rfl))
 f319 := Tryd.func102.trans (congrArg some (by kernel_rfl))
 f320 := Tryd.func103.trans (congrArg some (by kernel_rfl))
 f337 := Tryd.func107.trans (congrArg some (by kernel_rfl))
 f338 := Tryd.func108.trans (congrArg some (by kernel_rfl))
 t0 := Tryd.underlying0
 a0 := Tryd.isAgg0
 z0 := Tryd.sizeOf0
 v0 := Tryd.zeroValue0
 t2 := Tryd.underlying2
 a2 := Tryd.isAgg2
 z2 := Tryd.sizeOf2
 v2 := Tryd.zeroValue2
 t3 := Tryd.underlying3
 a3 := Tryd.isAgg3
 z3 := Tryd.sizeOf3
 v3 := Tryd.zeroValue3
 t4 := Tryd.underlying4
 a4 := Tryd.isAgg4
 z4 := Tryd.sizeOf4
 v4 := Tryd.zeroValue4
 t5 := Tryd.underlying5
 a5 := Tryd.isAgg5
 z5 := Tryd.sizeOf5
 v5 := Tryd.zeroValue5
 t9 := Tryd.underlying9
 a9 := Tryd.isAgg9
 z9 := Tryd.sizeOf9
 v9 := Tryd.zeroValue9
 t20 := Tryd.underlying20
 a20 := Tryd.isAgg20
 z20 := Tryd.sizeOf20
 v20 := Tryd.zeroValue20
 t37 := Tryd.underlying46
 a37 := Tryd.isAgg46
 z37 := Tryd.sizeOf46
 v37 := Tryd.zeroValue46
 t46 := Tryd.underlying116
 a46 := Tryd.isAgg116
 z46 := Tryd.sizeOf116
 v46 := Tryd.zeroValue116
 t51 := Tryd.underlying114
 a51 := Tryd.isAgg114
 z51 := Tryd.sizeOf114
 v51 := Tryd.zeroValue114
 t53 := Tryd.underlying100
 a53 := Tryd.isAgg100
 z53 := Tryd.sizeOf100
 v53 := Tryd.zeroValue100
 t171 := Tryd.underlying99
 a171 := Tryd.isAgg99
 z171 := Tryd.sizeOf99
 v171 := Tryd.zeroValue99
 t173 := Tryd.underlying103
 a173 := Tryd.isAgg103
 z173 := Tryd.sizeOf103
 v173 := Tryd.zeroValue103
 t212 := Tryd.underlying113
 a212 := Tryd.isAgg113
 z212 := Tryd.sizeOf113
 v212 := Tryd.zeroValue113
 t213 := Tryd.underlying115
 a213 := Tryd.isAgg115
 z213 := Tryd.sizeOf115
 t232 := Tryd.underlying128
 a232 := Tryd.isAgg128
 z232 := Tryd.sizeOf128
 v232 := Tryd.zeroValue128
 t233 := Tryd.underlying129
 a233 := Tryd.isAgg129
 z233 := Tryd.sizeOf129
 v233 := Tryd.zeroValue129
 g17 := by kernel_rfl
 g18 := by kernel_rfl
 g19 := by kernel_rfl
 i0 := by kernel_rfl
 i2 := by kernel_rfl
 i3 := by kernel_rfl
 i4 := by kernel_rfl
 i5 := by kernel_rfl
 i9 := by kernel_rfl
 i20 := by kernel_rfl
 i37 := by kernel_rfl
 i46 := by kernel_rfl
 i51 := by kernel_rfl
 i53 := by kernel_rfl
 i171 := by kernel_rfl
 i173 := by kernel_rfl
 i212 := by kernel_rfl
 i232 := by kernel_rfl
 i233 := by kernel_rfl
 m17 := by kernel_rfl
 m18 := by kernel_rfl
 m19 := by kernel_rfl }
open Go.RowKit Go.Sort Go.Lib in
theorem Tryd.strconv_Itoa (n : Int) (h0 : -9223372036854775808 ≤ n) (h1 : n ≤ 9223372036854775807) (w : World) (htab : Lib.TabIs Tryd.prog w "internal/strconv.uint64pow10" .u64 Lib.pow10Tab) :
  Calls Tryd.prog 64 #[.int .i64 n] w fun e w' => e = .returned (.string ⟨(Lib.itoa n).toArray⟩) ∧ ∃ k os, w' = grow (w.drewN k) os := Any.strconv_Itoa Tryd.laysM171 n h0 h1 w htab
def Tryd.laysC172_ren : Go.Shelf.Ren := ⟨fun | 172 => 82 | 244 => 87 | 245 => 88 | 247 => 94 | 279 => 95 | 280 => 96 | 281 => 97 | 282 => 98 | 287 => 104 | 316 => 105 | 171 => 64 | 205 => 106 | 321 => 109 | 322 => 110 | 243 => 79 | 246 => 86 | 283 => 90 | 284 => 91 | 285 => 92 | 286 => 93 | 129 => 100 | 317 => 99 | 318 => 101 | 319 => 102 | 320 => 103 | 337 => 107 | 338 => 108 | n => n, fun | 9 => 9 | 3 => 3 | 75 => 70 | 76 => 71 | 4 => 4 | 5 => 5 | 167 => 105 | 37 => 46 | 0 => 0 | 85 => 106 | 2 => 2 | 168 => 108 | 53 => 100 | 175 => 118 | 46 => 116 | 210 => 121 | 127 => 76 | 145 => 127 | 143 => 125 | 21 => 21 | 171 => 99 | 173 => 103 | 212 => 113 | 51 => 114 | 20 => 20 | 213 => 115 | 232 => 128 | 233 => 129 | 80 => 50 | n => n, fun | 15 => 2 | 16 => 3 | 17 => 1 | 18 => 4 | 19 => 5 | n => n⟩
theorem Tryd.laysC172 : Go.Proofs.LaysC.n172 Tryd.prog Tryd.laysC172_ren := {
 mixed := by kernel_rfl
 f129 := Tryd.func100.trans (congrArg some (by kernel_rfl))
 f171 := Tryd.func64.trans (congrArg some (by kernel_rfl))
 f172 := Tryd.func82.trans (congrArg some (by kernel_rfl))
 f205 := Tryd.func106.trans (congrArg some (by kernel_rfl))
 f243 := Tryd.func79.trans (congrArg some (by kernel_rfl))
 f244 := Tryd.func87.trans (congrArg some (by kernel_rfl))
 f245 := Tryd.func88.trans (congrArg some (by kernel_rfl))
 f246 := Tryd.func86.trans (congrArg some (by kernel_rfl))
 f247 := Tryd.func94.trans (congrArg some (by kernel_rfl))
 f279 := Tryd.func95.trans (congrArg some (by kernel_rfl))
 f280 := Tryd.func96.trans (congrArg some (by kernel_rfl))
 f281 := Tryd.func97.trans (congrArg some (by kernel_rfl))
 f282 := Tryd.func98.trans (congrArg some (by kernel_rfl))
 f283 := Tryd.func90.trans (congrArg some (by kernel_rfl))
 f284 := Tryd.func91.trans (congrArg some (by kernel_rfl))
 f285 := Tryd.func92.trans (congrArg some (by kernel_rfl))
 f286 := Tryd.func93.trans (congrArg some (by kernel_rfl))
 f287 := Tryd.func104.trans (congrArg some (by kernel_rfl))
 f316 := Tryd.func105.trans (congrArg some (by kernel_rfl))
 f317 := Tryd.func99.trans (congrArg some (by kernel_rfl))
 f318 := Tryd.func101.trans (congrArg some (by kernel_rfl))
 f319 := Tryd.func102.trans (congrArg some (by kernel_rfl))
 f320 := Tryd.func103.trans (congrArg some (by kernel_rfl))
 f321 := Tryd.func109.trans (congrArg some (by kernel_rfl))
 f322 := Tryd.func110.trans (congrArg some (by kernel_rfl))
 f337 := Tryd.func107.trans (congrArg some (by kernel_rfl))
 f338 := Tryd.func108.trans (congrArg some (by kernel_rfl))
 t0 := Tryd.underlying0
 a0 := Tryd.isAgg0
 z0 := Tryd.sizeOf0
 v0 := Tryd.zeroValue0
 t2 := Tryd.underlying2
 a2 := Tryd.isAgg2
 z2 := Tryd.sizeOf2
 v2 := Tryd.zeroValue2
 t3 := Tryd.underlying3
 a3 := Tryd.isAgg3
 z3 := Tryd.sizeOf3
 v3 := Tryd.zeroValue3
 t4 := Tryd.underlying4
 a4 := Tryd.isAgg4
 z4 := Tryd.sizeOf4
 v4 := Tryd.zeroValue4
 t5 := Tryd.underlying5
 a5 := Tryd.isAgg5
 z5 := Tryd.sizeOf5
 v5 := Tryd.zeroValue5
 t9 := Tryd.underlying9
 a9 := Tryd.isAgg9
 z9 := Tryd.sizeOf9
 v9 := Tryd.zeroValue9
 t20 := Tryd.underlying20
 a20 := Tryd.isAgg20
 z20 := Tryd.sizeOf20
 v20 := Tryd.zeroValue20
 t21 := Tryd.underlying21
 a21 := Tryd.isAgg21
 z21 := Tryd.sizeOf21
 v21 := Tryd.zeroValue21
 t37 := Tryd.underlying46
 a37 := Tryd.isAgg46
 z37 := Tryd.sizeOf46
 v37 := Tryd.zeroValue46
 t46 := Tryd.underlying116
 a46 := Tryd.isAgg116
 z46 := Tryd.sizeOf116
 v46 := Tryd.zeroValue116
 t51 := Tryd.underlying114
 a51 := Tryd.isAgg114
 z51 := Tryd.sizeOf114
 v51 := Tryd.zeroValue114
 t53 := Tryd.underlying100
 a53 := Tryd.isAgg100
 z53 := Tryd.sizeOf100
 v53 := Tryd.zeroValue100
 t75 := Tryd.underlying70
 a75 := Tryd.isAgg70
 z75 := Tryd.sizeOf70
 v75 := Tryd.zeroValue70
 t76 := Tryd.underlying71
 a76 := Tryd.isAgg71
 z76 := Tryd.sizeOf71
 v76 := Tryd.zeroValue71
 t85 := Tryd.underlying106
 a85 := Tryd.isAgg106
 z85 := Tryd.sizeOf106
 v85 := Tryd.zeroValue106
 t127 := Tryd.underlying76
 a127 := Tryd.isAgg76
 z127 := Tryd.sizeOf76
 v127 := Tryd.zeroValue76
 t143 := Tryd.underlying125
 a143 := Tryd.isAgg125
 z143 := Tryd.sizeOf125
 v143 := Tryd.zeroValue125
 t145 := Tryd.underlying127
 a145 := Tryd.isAgg127
 z145 := Tryd.sizeOf127
 v145 := Tryd.zeroValue127
 t167 := Tryd.underlying105
 a167 := Tryd.isAgg105
 z167 := Tryd.sizeOf105
 v167 := Tryd.zeroValue105
 t168 := Tryd.underlying108
 a168 := Tryd.isAgg108
 z168 := Tryd.sizeOf108
 v168 := Tryd.zeroValue108
 t171 := Tryd.underlying99
 a171 := Tryd.isAgg99
 z171 := Tryd.sizeOf99
 v171 := Tryd.zeroValue99
 t173 := Tryd.underlying103
 a173 := Tryd.isAgg103
 z173 := Tryd.sizeOf103
 v173 := Tryd.zeroValue103
 t175 := Tryd.underlying118
 a175 := Tryd.isAgg118
 z175 := Tryd.sizeOf118
 v175 := Tryd.zeroValue118
 t210 := Tryd.underlying121
 a210 := Tryd.isAgg121
 z210 := Tryd.sizeOf121
 v210 := Tryd.zeroValue121
 t212 := Tryd.underlying113
 a212 := Tryd.isAgg113
 z212 := Tryd.sizeOf113
 v212 := Tryd.zeroValue113
 t213 := Tryd.underlying115
 a213 := Tryd.isAgg115
 z213 := Tryd.sizeOf115
 t232 := Tryd.underlying128
 a232 := Tryd.isAgg128
 z232 := Tryd.sizeOf128
 v232 := Tryd.zeroValue128
 t233 := Tryd.underlying129
 a233 := Tryd.isAgg129
 z233 := Tryd.sizeOf129
 v233 := Tryd.zeroValue129
 g15 := by kernel_rfl
 g16 := by kernel_rfl
 g17 := by kernel_rfl
 g18 := by kernel_rfl
 g19 := by kernel_rfl
 t80 := Tryd.underlying50
 a80 := Tryd.isAgg50
 z80 := Tryd.sizeOf50
 v80 := Tryd.zeroValue50
 i0 := by kernel_rfl
 i2 := by kernel_rfl
 i3 := by kernel_rfl
 i4 := by kernel_rfl
 i5 := by kernel_rfl
 i9 := by kernel_rfl
 i20 := by kernel_rfl
 i21 := by kernel_rfl
 i37 := by kernel_rfl
 i46 := by kernel_rfl
 i51 := by kernel_rfl
 i53 := by kernel_rfl
 i75 := by kernel_rfl
 i76 := by kernel_rfl
 i80 := by kernel_rfl
 i85 := by kernel_rfl
 i127 := by kernel_rfl
 i143 := by kernel_rfl
 i145 := by kernel_rfl
 i167 := by kernel_rfl
 i168 := by kernel_rfl
 i171 := by kernel_rfl
 i173 := by kernel_rfl
 i175 := by kernel_rfl
 i210 := by kernel_rfl
 i212 := by kernel_rfl
 i232 := by kernel_rfl
 i233 := by kernel_rfl
 m15 := by kernel_rfl
 m16 := by kernel_rfl
 m17 := by kernel_rfl
 m18 := by kernel_rfl
 m19 := by kernel_rfl
 c0 := by kernel_rfl
 c2 := by kernel_rfl
 c3 := by kernel_rfl
 c4 := by kernel_rfl
 c5 := by kernel_rfl
 c9 := by kernel_rfl
 c20 := by kernel_rfl
 c21 := by kernel_rfl
 c37 := by kernel_rfl
 c46 := by kernel_rfl
 c51 := by kernel_rfl
 c53 := by kernel_rfl
 c75 := by kernel_rfl
 c76 := by kernel_rfl
 c80 := by kernel_rfl
 c85 := by kernel_rfl
 c127 := by kernel_rfl
 c143 := by kernel_rfl
 c145 := by kernel_rfl
 c167 := by kernel_rfl
 c168 := by kernel_rfl
 c171 := by kernel_rfl
 c173 := by kernel_rfl
 c175 := by kernel_rfl
 c210 := by kernel_rfl
 c212 := by kernel_rfl
 c213 := by kernel_rfl
 c232 := by kernel_rfl
 c233 := by kernel_rfl }
open Go.RowKit in
theorem Tryd.strconv_Atoi_ok (s : ByteArray) (hmax : s.size ≤ 9223372036854775806) (v : Int) (h : Lib.atoiAll s.data.toList = .ok v) (w : World) :
  Calls Tryd.prog 82 #[.string s] w fun e w' => e = .returned (.tuple #[.int .i64 v, .nilIface]) ∧ (w' = w ∨ ∃ t, w' = Lib.bytesWorld w 5 t) := Any.strconv_Atoi_ok Tryd.laysC172 s hmax v h w
open Go.RowKit in
theorem Tryd.strconv_Atoi_syntax_var (s : ByteArray) (hlim : s.size ≤ 281474976710656) (h : Lib.atoiAll s.data.toList = Lib.atoiAll []) (tp : TypeId) (p : Value) (w : World) (hvar : w.var? Tryd.prog "strconv.ErrSyntax" = some #[.iface tp p]) :
  Calls Tryd.prog 82 #[.string s] w fun e w' => ∃ N, e = .returned (.tuple #[.int .i64 0, .iface 108 (.pointer (some ⟨N, 0, none⟩))]) ∧ w.heap.size ≤ N ∧ w'.heap[N]? = some (.cells #[.string ⟨#[65, 116, 111, 105]⟩, .string s, .iface tp p] 121 (0, 0)) ∧ Below w.heap.size w w' := Any.strconv_Atoi_syntax_var Tryd.laysC172 s hlim h tp p w hvar
open Go.RowKit in
theorem Tryd.strconv_Atoi_range_var (s : ByteArray) (hlim : s.size ≤ 281474976710656) (h : Lib.atoiAll s.data.toList = .range) (tp : TypeId) (p : Value) (w : World) (hvar : w.var? Tryd.prog "strconv.ErrRange" = some #[.iface tp p]) :
  Calls Tryd.prog 82 #[.string s] w fun e w' => ∃ N, e = .returned (.tuple #[.int .i64 (Lib.atoiSat s.data.toList), .iface 108 (.pointer (some ⟨N, 0, none⟩))]) ∧ w.heap.size ≤ N ∧ w'.heap[N]? = some (.cells #[.string ⟨#[65, 116, 111, 105]⟩, .string s, .iface tp p] 121 (0, 0)) ∧ Below w.heap.size w w' := Any.strconv_Atoi_range_var Tryd.laysC172 s hlim h tp p w hvar
end Go.Proofs
namespace Go.Proofs.YtllkpgnpioojjaaDoor
open Go.Ab Go.Tb
set_option maxRecDepth 10000
attribute [local irreducible] W WO Pu QS QB QL QF QV QV1 CH QE
theorem bys_inj {a b : ByteArray} (h : a.data.toList = b.data.toList) : a = b := by
 cases a; cases b; simp at h; exact congrArg _ h
theorem numB_size {n : Int} (h : n.natAbs < 10 ^ 20) : (numB n).size ≤ 21 := by
 have e : (numB n).size = (Lib.itoa n).length := Array.length_toList.symm
 rw [e]
 rcases Int.lt_or_le n 0 with hn | hn
 · rw [numB_neg hn, List.length_cons]; have := digB_len n.natAbs 19 h; omega
 · rw [numB_pos hn]; have := digB_len n.toNat 19 (by omega); omega
theorem within_fn (n : Int) (ok : Bool) : Does Tryd.prog 83 [.d (.v (.int .i64 n)), .d (.v (.bool ok))] (.tup [.d (.v (.int .i64 (if ok && inR n then n else 0))), .d (.v (.bool (ok && inR n)))]) 0 := by
 refine Does.of_W (n := 14) (ts := [4, 5]) Tryd.func83 (by kernel_rfl) rfl Tryd.ntmps83 Tryd.results83 rfl rfl fun C hC hG => ?_
 refine W.seq (W.region ?_)
 iterate 2 refine pE rfl ?_
 refine WO.nil (qs ?_)
 iterate 2 refine W.seq ?_
 apply regionB; (case hb => rfl)
 ·
  iterate 3 refine pE rfl ?_
  apply splitJ; (case hj => rfl); (case hl => rfl)
  ·
   iterate 3 refine skipT rfl rfl rfl rfl ?_
   refine pE rfl ?_
   refine WO.nil ?_
   refine qv1 rfl rfl rfl
  ·
   refine goG rfl rfl ?_
   refine pE rfl ?_
   refine goG rfl rfl ?_
   refine pu (puCall rfl rfl rfl (in_fn ..) rfl) rfl ?_
   refine goG rfl rfl ?_
   iterate 2 refine pE rfl ?_
   refine WO.nil ?_
   refine qv1 rfl rfl rfl
 refine qs ?_
 refine condK rfl (fun h12 => ?_) (fun h12 => ?_)
 ·
  refine W.seq (W.region ?_)
  iterate 2 refine pE rfl ?_
  refine WO.nil (qs (W.ret (qsRet ?_)))
  refine QF.ret0 trivial rfl ?_
  cases ok <;> cases h : inR n <;> simp_all [norm, normL, oneA]
 ·
  refine W.skip (qs (W.seq (W.region ?_)))
  iterate 3 refine pE rfl ?_
  refine WO.nil (qs (W.ret ?_))
  refine QF.ret0 trivial rfl ?_
  cases ok <;> cases h : inR n <;> simp_all [norm, normL, oneA]
end Go.Proofs.YtllkpgnpioojjaaDoor
namespace Go.Proofs.YtllkpgnpioojjaaDoor
open Go.Ab Go.Tb
set_option maxRecDepth 10000
attribute [local irreducible] W WO Pu QS QB QL QF QV QV1 CH QE
theorem num_of {w : World} (hu : Under Tryd.prog w) : MetNum Tryd.prog w := hu.num (fun _ h => h)
theorem numB_ok {n : Int} (h : n.natAbs < 10 ^ 20) : okc (.string (numB n)) = true := by
 have := numB_size h
 exact decide_eq_true (by simp only [maxLen]; omega)
theorem abs_int {n : Int} (h0 : -9223372036854775808 ≤ n) (h1 : n ≤ 9223372036854775807) : n.natAbs < 10 ^ 20 := by
 have hp : (10 : Nat) ^ 20 = 100000000000000000000 := by decide
 omega
open Go.RowKit in
theorem itoa_fn (n : Int) (h0 : -9223372036854775808 ≤ n) (h1 : n ≤ 9223372036854775807) : Does Tryd.prog 64 [.d (.v (.int .i64 n))] (.d (.v (.string (numB n)))) 0 :=
 Does.of_freshV (xs := [.int .i64 n]) ⟨_, Tryd.func64, by kernel_rfl, by kernel_rfl⟩ fun w hu _ =>
  (Tryd.strconv_Itoa n h0 h1 w (num_of hu).1).mono fun e w' ⟨he, k, os, hw⟩ =>
   ⟨_, he, hw ▸ Lib.below_grow _ w (Nat.le_refl _) k os, fun _ _ _ => .d (.v _ (numB_ok (abs_int h0 h1)))⟩
theorem text_fn (n : Int) (h0 : -9223372036854775808 ≤ n) (h1 : n ≤ 9223372036854775807) : Does Tryd.prog 38 [.d (.v (.int .i64 n))] (.d (.v (.string (numB n)))) 0 := by
 refine Does.of_W (n := 5) (ts := [2]) Tryd.func38 (by kernel_rfl) rfl Tryd.ntmps38 Tryd.results38 rfl rfl fun C hC hG => ?_
 refine W.seq (W.region ?_)
 refine pE rfl ?_
 refine WO.nil (qs (W.seq (W.region ?_)))
 refine pE rfl ?_
 refine pu (puCall rfl rfl rfl ((itoa_fn _ (by assumption) (by assumption))) rfl) rfl ?_
 refine pE rfl ?_
 refine WO.nil (qs (W.ret ?_))
 refine QF.ret0 trivial rfl ?_
 rfl
def atoiA (s : ByteArray) : A :=
 match Lib.atoiAll s.data.toList with
 | .ok v => .tup [.d (.v (.int .i64 v)), .d (.v .nilIface)]
 | .range => .tup [.d (.v (.int .i64 (Lib.atoiSat s.data.toList))), .ni]
 | _ => .tup [.d (.v (.int .i64 0)), .ni]
theorem sat_ok (l : List UInt8) : okc (.int .i64 (Lib.atoiSat l)) = true := by
 unfold Lib.atoiSat
 split <;> (try split) <;> decide
open Go.RowKit in
theorem atoi_fn (s : ByteArray) (hs : s.size ≤ 281474976710656) : Does Tryd.prog 82 [.d (.v (.string s))] (atoiA s) 0 :=
 Does.of_freshV (xs := [.string s]) ⟨_, Tryd.func82, by kernel_rfl, by kernel_rfl⟩ fun w hu _ => by
  obtain ⟨_, ⟨t, p, h2⟩, t', p', h3⟩ := num_of hu
  unfold atoiA
  cases h : Lib.atoiAll s.data.toList with
  | ok v =>
   have hb := Lib.atoiAll_bounds h
   refine (Tryd.strconv_Atoi_ok s (by omega) v h w).mono fun e w' ⟨he, hw⟩ => ⟨_, he, ?_, fun _ _ _ => pairRep (.d (.v _ ?_)) (.d (.v _ rfl))⟩
   ·
    rcases hw with rfl | ⟨t, rfl⟩
    · exact Below.refl _ _
    · exact Joins.below_bytesWorld _ w _ _ (Nat.le_refl _)
   ·
    simp [okc, IntKind.min, IntKind.max, IntKind.signed, IntKind.bits]
    omega
  | range =>
   exact (Tryd.strconv_Atoi_range_var s hs h t' p' w h3).mono fun e w' ⟨N, he, _, _, hb⟩ => ⟨_, he, hb, fun _ _ _ => pairRep (.d (.v _ (sat_ok _))) (.ni _ _)⟩
  | _ =>
   exact (Tryd.strconv_Atoi_syntax_var s hs h t p w h2).mono fun e w' ⟨N, he, _, _, hb⟩ => ⟨_, he, hb, fun _ _ _ => pairRep (.d (.v _ (by decide))) (.ni _ _)⟩
end Go.Proofs.YtllkpgnpioojjaaDoor
namespace Go.Proofs.YtllkpgnpioojjaaDoor
open Go.Ab Go.Tb
set_option maxRecDepth 10000
attribute [local irreducible] W WO Pu QS QB QL QF QV QV1 CH QE
end Go.Proofs.YtllkpgnpioojjaaDoor
namespace Go.Proofs.YtllkpgnpioojjaaDoor
open Go.Ab Go.Tb
set_option maxRecDepth 10000
attribute [local irreducible] W WO Pu QS QB QL QF QV QV1 CH QE
end Go.Proofs.YtllkpgnpioojjaaDoor
namespace Go.Proofs.YtllkpgnpioojjaaDoor
open Go.Ab Go.Tb
set_option maxRecDepth 10000
attribute [local irreducible] W WO Pu QS QB QL QF QV QV1 CH QE
theorem equal_fn (a b : List ByteArray) : Does Tryd.prog 29 [.d (.sl (txs a)), .d (.sl (txs b))] (.d (.v (.bool (decide (a = b))))) 0 := by
 refine Does.of_W (n := 26) (ts := [4]) Tryd.func29 (by kernel_rfl) rfl Tryd.ntmps29 Tryd.results29 rfl rfl fun C hC hG => ?_
 refine W.seq (W.region ?_)
 refine pE rfl ?_
 refine WO.nil (qs ?_)
 iterate 2 refine W.seq ?_
 refine W.region ?_
 iterate 5 refine pE rfl ?_
 refine WO.nil (qs ?_)
 refine condK rfl (fun h10 => ?_) (fun h10 => ?_)
 ·
  have hg : decide (a = b) = false := by simp at h10 ⊢; rintro rfl; simp at h10
  refine W.seq (W.region ?_)
  refine pE rfl ?_
  refine WO.nil (qs (W.ret (qsRet ?_)))
  refine QF.ret0 trivial rfl ?_
  rw [hg]; rfl
 ·
  have hl : a.length = b.length := by simp at h10; omega
  refine W.skip (qs ?_)
  iterate 2 refine W.seq ?_
  refine W.region ?_
  iterate 3 refine pE rfl ?_
  refine WO.nil (qs (W.block ?_))
  refine W.len (t := 0) rfl rfl (fun hlen => ?_)
  try simp only [List.length_map, Ex.kc_len] at hlen
  refine W.loopR (ι := {x : Nat // match x with | k => k ≤ a.length ∧ decide (a.drop k = b.drop k) = decide (a = b)})
   (fun x => match x.1 with | k => [(13, .d (.v (.int .i64 ((k : Nat) : Int))))]) [(0, _), (1, _), (12, _)]
   (fun x => match x.1 with | k => []) [] [] 0 (fun x => match x.1 with | k => a.length - k)
   [] ⟨0, ?_⟩ rfl ?_ ⟨rfl, rfl, rfl, rfl, rfl, rfl, trivial⟩ ?_ trivial rfl ?_
  · first | exact ⟨Nat.zero_le _, rfl⟩ | exact trivial | simp
  · repeat' first | exact trivial | refine ⟨rfl, ?_⟩ | refine ⟨congrArg some (renL_boxE _ _ _), ?_⟩ | refine ⟨step_nat (by assumption) (by assumption), ?_⟩
  · repeat' first | exact trivial | refine ⟨rfl, ?_⟩ | refine ⟨congrArg some (renL_boxE _ _ _), ?_⟩ | refine ⟨step_nat (by assumption) (by assumption), ?_⟩
  rintro ⟨k, hk, hI⟩
  show W _ _ _ _ _ ⟨[(13, .d (.v (.int .i64 ((k : Nat) : Int)))), (0, _), (1, _), (12, _)], [], [], 0⟩
  refine W.seq (W.region ?_)
  refine pE rfl ?_
  refine WO.nil (qs (W.seq ?_))
  refine eachR (l := a) (k := k) rfl (by simp [Ex.kc_len, bytes_len]) hk (fun x hx hd hlt => ?_) (fun he hd => ?_)
  ·
   obtain ⟨y, hy, hyd⟩ := exAt (l := b) (k := k) (by omega)
   rw [hd, hyd] at hI
   refine W.skip (qs (W.seq (W.block (W.seq (W.region ?_)))))
   iterate 2 refine pE rfl ?_
   refine WO.nil (qs (W.seq ?_))
   refine W.regionD tab (by kernel_rfl) ?_
   iterate 2 refine chPu (ev tab rfl) rfl ?_
   refine chPu (indexAddr tab rfl rfl rfl rfl rfl rfl (Int.natCast_nonneg _) (idx_map hx) rfl) rfl ?_
   first | refine chPu (ev tab rfl) rfl ?_ | refine chPu (loadRow tab rfl rfl rfl rfl) rfl ?_ | refine chPu (loadBox tab rfl rfl rfl rfl rfl) rfl ?_
   iterate 2 refine chPu (ev tab rfl) rfl ?_
   refine chPu (indexAddr tab rfl rfl rfl rfl rfl rfl (Int.natCast_nonneg _) (idx_map hy) rfl) rfl ?_
   first | refine chPu (ev tab rfl) rfl ?_ | refine chPu (loadRow tab rfl rfl rfl rfl) rfl ?_ | refine chPu (loadBox tab rfl rfl rfl rfl rfl) rfl ?_
   refine chPu (ev tab rfl) rfl ?_
   refine CH.nil ?_
   refine qs ?_
   refine condK rfl (fun h24 => ?_) (fun h24 => ?_)
   ·
    have hxy : x ≠ y := by rintro rfl; simp at h24
    have hg : decide (a = b) = false := by rw [← hI]; simp [hxy]
    refine W.seq (W.region ?_)
    refine pE rfl ?_
    refine WO.nil (qs (W.ret (qbRet (qsRet (qlRet (qbRet (qsRet ?_)))))))
    refine QF.ret0 trivial rfl ?_
    rw [hg]; rfl
   ·
    have hxy : x = y := by simpa using h24
    refine W.skip (qbN (qs (W.region ?_)))
    iterate 2 refine pE rfl ?_
    refine WO.nil ?_
    refine W.endR [] ⟨k + 1, ?_⟩ ?_ rfl ?_ ⟨rfl, rfl, rfl, rfl, rfl, rfl, trivial⟩ ?_ trivial rfl
    ·
     refine ⟨hlt, ?_⟩
     rw [← hI, hxy]
     simp
    · dsimp only; omega
    · repeat' first | exact trivial | refine ⟨rfl, ?_⟩ | refine ⟨congrArg some (renL_boxE _ _ _), ?_⟩ | refine ⟨step_nat (by assumption) (by assumption), ?_⟩
    · repeat' first | exact trivial | refine ⟨rfl, ?_⟩ | refine ⟨congrArg some (renL_boxE _ _ _), ?_⟩ | refine ⟨step_nat (by assumption) (by assumption), ?_⟩
  ·
   rw [hd, dropEnd (l := b) (by omega)] at hI
   refine W.exit (qsExit (qlExit (qbExit (qs (W.seq (W.region ?_))))))
   refine pE rfl ?_
   refine WO.nil (qs (W.ret ?_))
   refine QF.ret0 trivial rfl ?_
   rw [← hI]; rfl
end Go.Proofs.YtllkpgnpioojjaaDoor
namespace Go.Proofs.YtllkpgnpioojjaaDoor
open Go.Ab Go.Tb
set_option maxRecDepth 10000
attribute [local irreducible] W WO Pu QS QB QL QF QV QV1 CH QE
theorem nparse_ok (s : ByteArray) (v : Int) (h : Lib.atoiAll s.data.toList = .ok v) : numP s = (if (if numB v = s then true else false) && inR v then (v, true) else (0, false)) := by
 unfold numP
 rw [h]
 by_cases h1 : numB v = s <;> by_cases h2 : inR v = true <;> simp [h1, h2]
theorem sat_in (l : List UInt8) : -9223372036854775808 ≤ Lib.atoiSat l ∧ Lib.atoiSat l ≤ 9223372036854775807 := by
 unfold Lib.atoiSat
 split <;> decide
theorem wrap_u8 {x : Int} (h : 0 ≤ x ∧ x ≤ 255) : IntKind.u8.wrap x = x := IntWalk.u8_in x h
theorem nparse_fn (s : ByteArray) (hs : s.size ≤ 281474976710656) : Does Tryd.prog 73 [.d (.v (.string s))] (.tup [.d (.v (.int .i64 (numP s).1)), .d (.v (.bool (numP s).2))]) 0 := by
 have ha := atoi_fn s hs
 unfold atoiA at ha
 cases h : Lib.atoiAll s.data.toList with
 | ok v =>
  rw [h] at ha
  have hb := Lib.atoiAll_bounds h
  have hp := nparse_ok s v h
  refine Does.of_W (n := 23) (ts := [2, 3]) Tryd.func73 (by kernel_rfl) rfl Tryd.ntmps73 Tryd.results73 rfl rfl fun C hC hG => ?_
  refine W.seq (W.region ?_)
  iterate 2 refine pE rfl ?_
  refine WO.nil (qs (W.seq (W.region ?_)))
  refine pE rfl ?_
  refine pu (puCall rfl rfl rfl ha rfl) rfl ?_
  iterate 5 refine pE rfl ?_
  refine WO.nil (qs (W.seq (W.region ?_)))
  iterate 2 refine pE rfl ?_
  refine pu (nilEq rfl (by kernel_rfl)) rfl ?_
  refine pE rfl ?_
  refine splitG rfl rfl (fun _ => ?_) (fun _ => ?_)
  ·
   refine goG rfl rfl ?_
   refine pE rfl ?_
   refine goG rfl rfl ?_
   refine pu (puCall rfl rfl rfl (text_fn v hb.1 hb.2) rfl) rfl ?_
   refine goG rfl rfl ?_
   refine pE rfl ?_
   refine goG rfl rfl ?_
   iterate 2 refine pE rfl ?_
   refine pu (puCall rfl rfl rfl (within_fn ..) rfl) rfl ?_
   iterate 4 refine pE rfl ?_
   refine WO.nil (qs (W.ret ?_))
   refine QF.ret0 trivial rfl ?_
   first | contradiction | (rw [hp]; simp only [norm, normL, oneA]; by_cases h1 : numB v = s <;> by_cases h2 : inR v = true <;> simp [h1, h2])
  ·
   iterate 4 refine skipT rfl rfl rfl rfl ?_
   refine pE rfl ?_
   refine pu (puCall rfl rfl rfl (within_fn ..) rfl) rfl ?_
   iterate 4 refine pE rfl ?_
   refine WO.nil (qs (W.ret ?_))
   refine QF.ret0 trivial rfl ?_
   first | contradiction | (rw [hp]; simp only [norm, normL, oneA]; by_cases h1 : numB v = s <;> by_cases h2 : inR v = true <;> simp [h1, h2])
 | range =>
  rw [h] at ha
  have hp : numP s = (0, false) := by unfold numP; rw [h]
  refine Does.of_W (n := 23) (ts := [2, 3]) Tryd.func73 (by kernel_rfl) rfl Tryd.ntmps73 Tryd.results73 rfl rfl fun C hC hG => ?_
  refine W.seq (W.region ?_)
  iterate 2 refine pE rfl ?_
  refine WO.nil (qs (W.seq (W.region ?_)))
  refine pE rfl ?_
  refine pu (puCall rfl rfl rfl ha rfl) rfl ?_
  iterate 5 refine pE rfl ?_
  refine WO.nil (qs (W.seq (W.region ?_)))
  iterate 2 refine pE rfl ?_
  refine pu (niEq rfl (by kernel_rfl)) rfl ?_
  refine pE rfl ?_
  refine splitG rfl rfl (fun _ => ?_) (fun _ => ?_)
  ·
   refine goG rfl rfl ?_
   refine pE rfl ?_
   refine goG rfl rfl ?_
   refine pu (puCall rfl rfl rfl (text_fn _ (sat_in _).1 (sat_in _).2) rfl) rfl ?_
   refine goG rfl rfl ?_
   refine pE rfl ?_
   refine goG rfl rfl ?_
   iterate 2 refine pE rfl ?_
   refine pu (puCall rfl rfl rfl (within_fn ..) rfl) rfl ?_
   iterate 4 refine pE rfl ?_
   refine WO.nil (qs (W.ret ?_))
   refine QF.ret0 trivial rfl ?_
   first | contradiction | (rw [hp]; rfl)
  ·
   iterate 4 refine skipT rfl rfl rfl rfl ?_
   refine pE rfl ?_
   refine pu (puCall rfl rfl rfl (within_fn ..) rfl) rfl ?_
   iterate 4 refine pE rfl ?_
   refine WO.nil (qs (W.ret ?_))
   refine QF.ret0 trivial rfl ?_
   first | contradiction | (rw [hp]; rfl)
 | _ =>
  rw [h] at ha
  have hp : numP s = (0, false) := by unfold numP; rw [h]
  refine Does.of_W (n := 23) (ts := [2, 3]) Tryd.func73 (by kernel_rfl) rfl Tryd.ntmps73 Tryd.results73 rfl rfl fun C hC hG => ?_
  refine W.seq (W.region ?_)
  iterate 2 refine pE rfl ?_
  refine WO.nil (qs (W.seq (W.region ?_)))
  refine pE rfl ?_
  refine pu (puCall rfl rfl rfl ha rfl) rfl ?_
  iterate 5 refine pE rfl ?_
  refine WO.nil (qs (W.seq (W.region ?_)))
  iterate 2 refine pE rfl ?_
  refine pu (niEq rfl (by kernel_rfl)) rfl ?_
  refine pE rfl ?_
  refine splitG rfl rfl (fun _ => ?_) (fun _ => ?_)
  ·
   refine goG rfl rfl ?_
   refine pE rfl ?_
   refine goG rfl rfl ?_
   refine pu (puCall rfl rfl rfl (text_fn 0 (by decide) (by decide)) rfl) rfl ?_
   refine goG rfl rfl ?_
   refine pE rfl ?_
   refine goG rfl rfl ?_
   iterate 2 refine pE rfl ?_
   refine pu (puCall rfl rfl rfl (within_fn ..) rfl) rfl ?_
   iterate 4 refine pE rfl ?_
   refine WO.nil (qs (W.ret ?_))
   refine QF.ret0 trivial rfl ?_
   first | contradiction | (rw [hp]; rfl)
  ·
   iterate 4 refine skipT rfl rfl rfl rfl ?_
   refine pE rfl ?_
   refine pu (puCall rfl rfl rfl (within_fn ..) rfl) rfl ?_
   iterate 4 refine pE rfl ?_
   refine WO.nil (qs (W.ret ?_))
   refine QF.ret0 trivial rfl ?_
   first | contradiction | (rw [hp]; rfl)
end Go.Proofs.YtllkpgnpioojjaaDoor
namespace Go.Proofs.YtllkpgnpioojjaaDoor
open Go.Ab Go.RowKit
abbrev tB : Nat := 48
abbrev tU : Nat := 5
theorem bld_size : (Tryd.prog.info? tB).map (·.size) = some 2 := by kernel_rfl
theorem bld_lies : liesAt Tryd.prog Tryd.prog.depth tB (2 / Tryd.prog.cellsOf tB) 0 tB 1 = true := by kernel_rfl
set_option maxHeartbeats 1000000 in
set_option maxRecDepth 100000 in
theorem bld_used (b : Nat) (w : World) (h0 : w.cell? ⟨b, 0, none⟩ = some (.pointer (some ⟨b, 0, none⟩))) :
  Calls Tryd.prog 63 #[.pointer (some ⟨b, 0, none⟩)] w fun e w' => e = .returned (.tuple #[]) ∧ w' = w := by
 obtain ⟨j, hj, _⟩ := Option.map_eq_some_iff.1 bld_size
 have t48 := Tryd.underlying48; have a48 := Tryd.isAgg48; have z48 := Tryd.sizeOf48; have u48 := run_underlying Tryd.underlying48
 have t45 := Tryd.underlying45; have a45 := Tryd.isAgg45; have z45 := Tryd.sizeOf45; have u45 := run_underlying Tryd.underlying45
 have t92 := Tryd.underlying92; have a92 := Tryd.isAgg92; have z92 := Tryd.sizeOf92; have u92 := run_underlying Tryd.underlying92
 go_enter Tryd.func63, Tryd.ntmps63
 go_wp2
 rw [Lib.run_neq_ptr_same w _ Tryd.underlying45 hj]
 go_wp2
 go_end0
 exact ⟨rfl, rfl⟩
set_option maxHeartbeats 1000000 in
set_option maxRecDepth 100000 in
theorem bld_fresh (b : Nat) (w : World) (h0 : w.cell? ⟨b, 0, none⟩ = some (.pointer none)) (hsh : w.shape? b = some (tB, 2)) (hfz : w.frozen? ⟨b, 0, none⟩ = false) :
  Calls Tryd.prog 63 #[.pointer (some ⟨b, 0, none⟩)] w fun e w' => e = .returned (.tuple #[]) ∧ w' = w.setCell ⟨b, 0, none⟩ (.pointer (some ⟨b, 0, none⟩)) := by
 obtain ⟨j, hj, hjs⟩ := Option.map_eq_some_iff.1 bld_size
 have t48 := Tryd.underlying48; have a48 := Tryd.isAgg48; have z48 := Tryd.sizeOf48; have u48 := run_underlying Tryd.underlying48
 have t45 := Tryd.underlying45; have a45 := Tryd.isAgg45; have z45 := Tryd.sizeOf45; have u45 := run_underlying Tryd.underlying45
 have t92 := Tryd.underlying92; have a92 := Tryd.isAgg92; have z92 := Tryd.sizeOf92; have u92 := run_underlying Tryd.underlying92
 go_enter Tryd.func63, Tryd.ntmps63
 go_wp2
 rw [Lib.run_to_unsafe w ⟨b, 0, none⟩ Tryd.underlying45 Tryd.underlying92 hj (by rw [hjs]; decide) hsh (Nat.zero_lt_succ 1)]
 simp only [Result.andThen]
 rw [Oper.upon_value]
 go_wp2
 rw [run_callFunc_extern Tryd.func78 (by kernel_rfl) (by kernel_rfl) (by kernel_rfl) (e := Extern.AbiNoEscape.same) (by kernel_rfl)]
 rw [Lib.run_noEscape]
 simp only [Result.andThen]
 rw [Oper.upon_value]
 go_wp2
 rw [Lib.run_from_unsafe w ⟨b, 0, none⟩ Tryd.underlying92 Tryd.underlying45 hj hsh bld_lies]
 simp only [Result.andThen]
 rw [Oper.upon_value]
 go_wp2
 go_end0
 exact ⟨rfl, rfl⟩
theorem bld_cc : FnOK Tryd.prog 63 := ⟨_, Tryd.func63, by kernel_rfl, by kernel_rfl⟩
theorem bld_st : FnOK Tryd.prog 24 := ⟨_, Tryd.func24, by kernel_rfl, by kernel_rfl⟩
theorem bld_copy : CopyChecks Tryd.prog tB 63 := ⟨bld_used, bld_fresh⟩
theorem bld_str : StrGives Tryd.prog tB tU 24 := fun B b l w h hB => Tryd.Builder_String_any B b l w h hB
end Go.Proofs.YtllkpgnpioojjaaDoor
namespace Go.Proofs.YtllkpgnpioojjaaDoor
open Go.Ab Go.Tb
set_option maxRecDepth 10000
attribute [local irreducible] W WO Pu QS QB QL QF QV QV1 CH QE
theorem copyCheck_fn (u : Bool) (s : ByteArray) : DoesB Tryd.prog 63 [.ptr 0 0] [[.np 0 tB u, .bf 1 tU s]] 1 (.tup []) [[.np 0 tB true, .bf 1 tU s]] 1 := CopyChecks.does bld_cc bld_copy u (.bf 1 tU s) 1
theorem bwrite_fn (u : Bool) (s x : ByteArray) (hb : s.size + x.size ≤ 140737488355328) : DoesB Tryd.prog 37 [.ptr 0 0, .d (.v (.string x))] [[.np 0 tB u, .bf 1 tU s]] 1 (.tup [.d (.v (.int .i64 x.size)), .d (.v .nilIface)]) [[.np 0 tB true, .bf 1 tU (s ++ x)]] 1 := by
 refine DoesB.of_V tab (n := 19) (rs := [.tmp 4, .tmp 5]) Tryd.func37 (by kernel_rfl) rfl Tryd.ntmps37 Tryd.results37 rfl rfl fun C hC hG => ?_
 refine W.seq (W.region ?_)
 iterate 2 refine pE rfl ?_
 refine WO.nil (qs (W.seq (W.region ?_)))
 refine pE rfl ?_
 refine callB [0] [1] rfl rfl rfl rfl rfl ((copyCheck_fn u s)) rfl rfl (by rfl) (by rfl) rfl rfl rfl rfl ?_
 refine WO.nil (qs (W.seq (W.region ?_)))
 iterate 4 refine pE rfl ?_
 first | refine pE rfl ?_ | refine pR rfl rfl rfl rfl rfl ?_ | refine pB rfl rfl rfl rfl rfl rfl ?_
 refine pE rfl ?_
 refine appendStrB tab rfl rfl rfl rfl rfl rfl rfl rfl rfl rfl hb rfl rfl ?_
 iterate 2 refine pE rfl ?_
 refine storeR tab rfl rfl rfl rfl rfl rfl rfl rfl ?_
 refine WO.nil (qs (W.seq (W.region ?_)))
 iterate 4 refine pE rfl ?_
 refine WO.nil (qs (W.ret ?_))
 refine QB1.end tab [4] trivial rfl rfl rfl rfl ?_ ?_
 · exact ⟨rfl, trivial⟩
 rfl
theorem bbyte_fn (u : Bool) (s : ByteArray) (c : Int) (m : ByteArray) (hm : m.size = 1) (hm0 : ∀ b, m.data[0]? = some b → (b.toNat : Int) = c) (hb : s.size + 1 ≤ 140737488355328) : DoesB Tryd.prog 40 [.ptr 0 0, .d (.v (.int .u8 c))] [[.np 0 tB u, .bf 1 tU s]] 1 (.d (.v .nilIface)) [[.np 0 tB true, .bf 1 tU (s ++ m)]] 1 := by
 refine DoesB.of_V tab (n := 17) (rs := [.tmp 4]) Tryd.func40 (by kernel_rfl) rfl Tryd.ntmps40 Tryd.results40 rfl rfl fun C hC hG => ?_
 refine W.seq (W.region ?_)
 refine pE rfl ?_
 refine WO.nil (qs (W.seq (W.region ?_)))
 refine pE rfl ?_
 refine callB [0] [1] rfl rfl rfl rfl rfl ((copyCheck_fn u s)) rfl rfl (by rfl) (by rfl) rfl rfl rfl rfl ?_
 refine WO.nil (qs (W.seq (W.region ?_)))
 iterate 4 refine pE rfl ?_
 first | refine pE rfl ?_ | refine pR rfl rfl rfl rfl rfl ?_ | refine pB rfl rfl rfl rfl rfl rfl ?_
 refine pE rfl ?_
 refine pu (buildV tab rfl rfl rfl rfl rfl rfl rfl rfl rfl) rfl ?_
 refine appendByteB tab rfl rfl rfl rfl rfl rfl rfl rfl m hm hm0 hb rfl rfl ?_
 iterate 2 refine pE rfl ?_
 refine storeR tab rfl rfl rfl rfl rfl rfl rfl rfl ?_
 refine WO.nil (qs (W.seq (W.region ?_)))
 refine pE rfl ?_
 refine WO.nil (qs (W.ret ?_))
 refine QB1.end tab [4] trivial rfl rfl rfl rfl ?_ ?_
 · exact ⟨rfl, trivial⟩
 rfl
theorem known_fn (b : UInt8) : Does Tryd.prog 65 [.d (.v (.int .u8 b.toNat))] (.d (.v (.bool (known b)))) 0 := by
 refine Does.of_W (n := 17) (ts := [2]) Tryd.func65 (by kernel_rfl) rfl Tryd.ntmps65 Tryd.results65 rfl rfl fun C hC hG => ?_
 refine W.seq (W.region ?_)
 refine pE rfl ?_
 refine WO.nil (qs (W.seq ?_))
 apply regionB; (case hb => rfl)
 ·
  iterate 3 refine pE rfl ?_
  apply splitJ; (case hj => rfl); (case hl => rfl)
  ·
   iterate 2 refine skipT rfl rfl rfl rfl ?_
   iterate 2 refine pE rfl ?_
   iterate 3 refine skipT rfl rfl rfl rfl ?_
   iterate 2 refine skipU rfl rfl rfl ?_
   refine skipT rfl rfl rfl rfl ?_
   iterate 2 refine pE rfl ?_
   refine WO.nil ?_
   refine qv1 rfl rfl rfl
  ·
   refine goG rfl rfl ?_
   refine pE rfl ?_
   refine goG rfl rfl ?_
   iterate 3 refine pE rfl ?_
   apply splitJ; (case hj => rfl); (case hl => rfl)
   ·
    iterate 3 refine skipT rfl rfl rfl rfl ?_
    iterate 2 refine skipU rfl rfl rfl ?_
    refine skipT rfl rfl rfl rfl ?_
    iterate 2 refine pE rfl ?_
    refine WO.nil ?_
    refine qv1 rfl rfl rfl
   ·
    refine goG rfl rfl ?_
    refine pE rfl ?_
    refine goG rfl rfl ?_
    refine pE rfl ?_
    refine goG rfl rfl ?_
    refine pE rfl ?_
    apply splitJ; (case hj => rfl); (case hl => rfl)
    ·
     refine goG rfl rfl ?_
     refine pE rfl ?_
     refine goG rfl rfl ?_
     refine pE rfl ?_
     refine goG rfl rfl ?_
     iterate 3 refine pE rfl ?_
     refine WO.nil ?_
     refine qv1 rfl rfl rfl
    ·
     iterate 2 refine skipT rfl rfl rfl rfl ?_
     refine goG rfl rfl ?_
     iterate 3 refine pE rfl ?_
     refine WO.nil ?_
     refine qv1 rfl rfl rfl
 refine qs (W.ret ?_)
 refine QF.ret0 trivial rfl ?_
 show A.d (D.v (Value.bool _)) = A.d (D.v (Value.bool _)); congr 3; unfold known; generalize b.toNat = n; simp only [show ((n : Int) = 9) = (n = 9) from propext (by omega), show ((n : Int) = 10) = (n = 10) from propext (by omega), show ((32 : Int) ≤ n) = (32 ≤ n) from propext (by omega), show ((n : Int) ≤ 126) = (n ≤ 126) from propext (by omega)]; cases decide (n = 9) <;> cases decide (n = 10) <;> cases decide (32 ≤ n) <;> cases decide (n ≤ 126) <;> rfl
theorem plain_fn (s : ByteArray) : Does Tryd.prog 45 [.d (.v (.string s))] (.d (.v (.bool (plainB s)))) 0 := by
 refine Does.of_W (n := 15) (ts := [2]) Tryd.func45 (by kernel_rfl) rfl Tryd.ntmps45 Tryd.results45 rfl rfl fun C hC hG => ?_
 refine W.seq (W.region ?_)
 refine pE rfl ?_
 refine WO.nil (qs ?_)
 iterate 2 refine W.seq ?_
 refine W.region ?_
 iterate 3 refine pE rfl ?_
 refine WO.nil (qs (W.block ?_))
 refine W.inRange (t := 0) rfl (fun hok => ?_)
 have hlen := okc_size hok
 refine W.loopR (ι := {x : Nat // match x with | k => k ≤ (bys s).length ∧ ((bys s).drop k).all known = (bys s).all known})
  (fun x => match x.1 with | k => [(6, .d (.v (.int .i64 ((k : Nat) : Int))))]) [(0, _), (5, _)]
  (fun x => match x.1 with | k => []) [] [] 0 (fun x => match x.1 with | k => (bys s).length - k)
  [] ⟨0, ?_⟩ rfl ?_ ⟨rfl, rfl, rfl, rfl, trivial⟩ ?_ trivial rfl ?_
 · first | exact ⟨Nat.zero_le _, rfl⟩ | exact trivial | simp
 · repeat' first | exact trivial | refine ⟨rfl, ?_⟩ | refine ⟨congrArg some (renL_boxE _ _ _), ?_⟩ | refine ⟨step_nat (by assumption) (by assumption), ?_⟩
 · repeat' first | exact trivial | refine ⟨rfl, ?_⟩ | refine ⟨congrArg some (renL_boxE _ _ _), ?_⟩ | refine ⟨step_nat (by assumption) (by assumption), ?_⟩
 rintro ⟨k, hk, hI⟩
 show W _ _ _ _ _ ⟨[(6, .d (.v (.int .i64 ((k : Nat) : Int)))), (0, _), (5, _)], [], [], 0⟩
 refine W.seq (W.region ?_)
 refine pE rfl ?_
 refine WO.nil (qs (W.seq ?_))
 refine eachR (l := bys s) (k := k) rfl (by simp [Ex.kc_len, bytes_len]) hk (fun b hx hd hlt => ?_) (fun he hd => ?_)
 ·
  rw [hd, List.all_cons] at hI
  refine W.skip (qs (W.seq (W.block (W.seq (W.region ?_)))))
  iterate 2 refine pE rfl ?_
  refine WO.nil (qs (W.seq (W.region ?_)))
  iterate 2 refine pE rfl ?_
  refine pu (indexStr tab rfl rfl rfl rfl (Int.natCast_nonneg _) (byteList (by assumption))) rfl ?_
  refine pu (puCall rfl rfl rfl (known_fn ..) rfl) rfl ?_
  refine pE rfl ?_
  refine WO.nil (qs ?_)
  refine condK rfl (fun h13 => ?_) (fun h13 => ?_)
  ·
   refine W.seq (W.region ?_)
   refine pE rfl ?_
   refine WO.nil (qs (W.ret (qbRet (qsRet (qlRet (qbRet (qsRet ?_)))))))
   refine QF.ret0 trivial rfl ?_
   simp only [norm, oneA]; unfold plainB; rw [← hI]; simp_all
  ·
   refine W.skip (qbN (qs (W.region ?_)))
   iterate 2 refine pE rfl ?_
   refine WO.nil ?_
   refine W.endR [] ⟨k + 1, ?_⟩ ?_ rfl ?_ ⟨rfl, rfl, rfl, rfl, trivial⟩ ?_ trivial rfl
   · exact ⟨hlt, by rw [← hI]; simp_all⟩
   · dsimp only; omega
   · repeat' first | exact trivial | refine ⟨rfl, ?_⟩ | refine ⟨congrArg some (renL_boxE _ _ _), ?_⟩ | refine ⟨step_nat (by assumption) (by assumption), ?_⟩
   · repeat' first | exact trivial | refine ⟨rfl, ?_⟩ | refine ⟨congrArg some (renL_boxE _ _ _), ?_⟩ | refine ⟨step_nat (by assumption) (by assumption), ?_⟩
 ·
  rw [hd] at hI
  refine W.exit (qsExit (qlExit (qbExit (qs (W.seq (W.region ?_))))))
  refine pE rfl ?_
  refine WO.nil (qs (W.ret ?_))
  refine QF.ret0 trivial rfl ?_
  simp only [norm, oneA]; unfold plainB; rw [← hI]; simp_all
theorem len_add (a b : Nat) (ha : a ≤ maxLen) (hb : b ≤ maxLen) : decide (IntKind.i64.wrap ((a : Int) + (b : Int)) = 0) = decide (a + b = 0) := by
 have e : maxLen = 9223372036854775807 := rfl
 have h := wrap_zero (x := (a : Int) + (b : Int)) (by omega) (by omega)
 by_cases q : a + b = 0
 · rw [decide_eq_true q, decide_eq_true (h.2 (by omega))]
 · rw [decide_eq_false q, decide_eq_false (fun z => q (by have := h.1 z; omega))]
theorem fields_fn (j : JV) : Does Tryd.prog 43 [.ag j.c] (.d (.v (.bool (fieldsJ j)))) 0 := by
 refine Does.of_W (n := 91) (ts := [2]) Tryd.func43 (by kernel_rfl) rfl Tryd.ntmps43 Tryd.results43 rfl rfl fun C hC hG => ?_
 refine W.seq (W.region ?_)
 refine boxR rfl rfl rfl ?_
 refine pE rfl ?_
 refine WO.nil (qs ?_)
 iterate 2 refine W.seq ?_
 refine lenBox (g := 0) (j := 3) rfl rfl (fun hl3 => ?_)
 refine lenBox (g := 0) (j := 4) rfl rfl (fun hl4 => ?_)
 rw [List.length_map] at hl3
 rw [JV.kc_len] at hl4
 have hz := len_add _ _ hl3 hl4
 refine W.region ?_
 refine pE rfl ?_
 first | refine pE rfl ?_ | refine pR rfl rfl rfl rfl rfl ?_ | refine pB rfl rfl rfl rfl rfl rfl ?_
 refine WO.nil (qs (W.block (W.seq (W.region ?_))))
 iterate 2 refine pE rfl ?_
 refine WO.nil (qs ?_)
 refine condK rfl (fun h5 => ?_) (fun h5 => ?_)
 ·
  refine W.seq ?_
  apply regionB; (case hb => rfl)
  ·
   refine pE rfl ?_
   first | refine pE rfl ?_ | refine pR rfl rfl rfl rfl rfl ?_ | refine pB rfl rfl rfl rfl rfl rfl ?_
   iterate 2 refine pE rfl ?_
   apply splitJ; (case hj => rfl); (case hl => rfl)
   ·
    refine goG rfl rfl ?_
    refine pE rfl ?_
    refine goG rfl rfl ?_
    first | refine pE rfl ?_ | refine pR rfl rfl rfl rfl rfl ?_ | refine pB rfl rfl rfl rfl rfl rfl ?_
    refine goG rfl rfl ?_
    iterate 3 refine pE rfl ?_
    apply splitJ; (case hj => rfl); (case hl => rfl)
    ·
     refine goG rfl rfl ?_
     refine pE rfl ?_
     refine goG rfl rfl ?_
     first | refine pE rfl ?_ | refine pR rfl rfl rfl rfl rfl ?_ | refine pB rfl rfl rfl rfl rfl rfl ?_
     refine goG rfl rfl ?_
     refine pE rfl ?_
     refine goG rfl rfl ?_
     refine pE rfl ?_
     refine goG rfl rfl ?_
     first | refine pE rfl ?_ | refine pR rfl rfl rfl rfl rfl ?_ | refine pB rfl rfl rfl rfl rfl rfl ?_
     refine goG rfl rfl ?_
     refine pE rfl ?_
     refine goG rfl rfl ?_
     refine pE rfl ?_
     refine goG rfl rfl ?_
     iterate 3 refine pE rfl ?_
     refine WO.nil ?_
     refine qv1 rfl rfl rfl
    ·
     iterate 8 refine skipT rfl rfl rfl rfl ?_
     iterate 2 refine pE rfl ?_
     refine WO.nil ?_
     refine qv1 rfl rfl rfl
   ·
    iterate 3 refine skipT rfl rfl rfl rfl ?_
    iterate 2 refine pE rfl ?_
    iterate 8 refine skipT rfl rfl rfl rfl ?_
    iterate 2 refine pE rfl ?_
    refine WO.nil ?_
    refine qv1 rfl rfl rfl
  refine qs (W.ret (qbRet (qsRet ?_)))
  refine QF.ret0 trivial rfl ?_
  show A.d (D.v (Value.bool _)) = A.d (D.v (Value.bool _)); congr 3; unfold fieldsJ; try simp only [List.length_map, JV.kc_len, hz]
  simp only [decide_eq_true_eq, decide_eq_false_iff_not] at *; simp_all <;> grind
 ·
  iterate 2 refine W.seq ?_
  refine W.region ?_
  iterate 2 refine pE rfl ?_
  refine WO.nil (qs ?_)
  refine condK rfl (fun h25 => ?_) (fun h25 => ?_)
  ·
   refine W.skip (qs ?_)
   refine W.condT rfl ?_
   refine W.seq ?_
   apply regionB; (case hb => rfl)
   ·
    refine pE rfl ?_
    first | refine pE rfl ?_ | refine pR rfl rfl rfl rfl rfl ?_ | refine pB rfl rfl rfl rfl rfl rfl ?_
    iterate 2 refine pE rfl ?_
    apply splitJ; (case hj => rfl); (case hl => rfl)
    ·
     refine goG rfl rfl ?_
     refine pE rfl ?_
     refine goG rfl rfl ?_
     first | refine pE rfl ?_ | refine pR rfl rfl rfl rfl rfl ?_ | refine pB rfl rfl rfl rfl rfl rfl ?_
     refine goG rfl rfl ?_
     refine pE rfl ?_
     refine goG rfl rfl ?_
     refine pE rfl ?_
     refine goG rfl rfl ?_
     first | refine pE rfl ?_ | refine pR rfl rfl rfl rfl rfl ?_ | refine pB rfl rfl rfl rfl rfl rfl ?_
     refine goG rfl rfl ?_
     refine pE rfl ?_
     refine goG rfl rfl ?_
     refine pE rfl ?_
     refine goG rfl rfl ?_
     iterate 3 refine pE rfl ?_
     refine WO.nil ?_
     refine qv1 rfl rfl rfl
    ·
     iterate 8 refine skipT rfl rfl rfl rfl ?_
     iterate 2 refine pE rfl ?_
     refine WO.nil ?_
     refine qv1 rfl rfl rfl
   refine qs (W.ret (qbRet (qsRet ?_)))
   refine QF.ret0 trivial rfl ?_
   show A.d (D.v (Value.bool _)) = A.d (D.v (Value.bool _)); congr 3; unfold fieldsJ; try simp only [List.length_map, JV.kc_len, hz]
   simp only [decide_eq_true_eq, decide_eq_false_iff_not] at *; simp_all <;> grind
  ·
   refine W.region ?_
   iterate 2 refine pE rfl ?_
   refine WO.nil (qs ?_)
   refine condK rfl (fun h25 => ?_) (fun h25 => ?_)
   ·
    refine W.seq ?_
    apply regionB; (case hb => rfl)
    ·
     refine pE rfl ?_
     first | refine pE rfl ?_ | refine pR rfl rfl rfl rfl rfl ?_ | refine pB rfl rfl rfl rfl rfl rfl ?_
     iterate 2 refine pE rfl ?_
     apply splitJ; (case hj => rfl); (case hl => rfl)
     ·
      refine goG rfl rfl ?_
      refine pE rfl ?_
      refine goG rfl rfl ?_
      first | refine pE rfl ?_ | refine pR rfl rfl rfl rfl rfl ?_ | refine pB rfl rfl rfl rfl rfl rfl ?_
      refine goG rfl rfl ?_
      refine pE rfl ?_
      refine goG rfl rfl ?_
      refine pE rfl ?_
      refine goG rfl rfl ?_
      first | refine pE rfl ?_ | refine pR rfl rfl rfl rfl rfl ?_ | refine pB rfl rfl rfl rfl rfl rfl ?_
      refine goG rfl rfl ?_
      refine pE rfl ?_
      refine goG rfl rfl ?_
      refine pE rfl ?_
      refine goG rfl rfl ?_
      iterate 3 refine pE rfl ?_
      refine WO.nil ?_
      refine qv1 rfl rfl rfl
     ·
      iterate 8 refine skipT rfl rfl rfl rfl ?_
      iterate 2 refine pE rfl ?_
      refine WO.nil ?_
      refine qv1 rfl rfl rfl
    refine qs (W.ret (qbRet (qsRet ?_)))
    refine QF.ret0 trivial rfl ?_
    show A.d (D.v (Value.bool _)) = A.d (D.v (Value.bool _)); congr 3; unfold fieldsJ; try simp only [List.length_map, JV.kc_len, hz]
    simp only [decide_eq_true_eq, decide_eq_false_iff_not] at *; simp_all <;> grind
   ·
    refine W.seq (W.region ?_)
    iterate 2 refine pE rfl ?_
    refine WO.nil (qs ?_)
    refine condK rfl (fun h41 => ?_) (fun h41 => ?_)
    ·
     refine W.seq ?_
     apply regionB; (case hb => rfl)
     ·
      refine pE rfl ?_
      first | refine pE rfl ?_ | refine pR rfl rfl rfl rfl rfl ?_ | refine pB rfl rfl rfl rfl rfl rfl ?_
      iterate 2 refine pE rfl ?_
      apply splitJ; (case hj => rfl); (case hl => rfl)
      ·
       refine goG rfl rfl ?_
       refine pE rfl ?_
       refine goG rfl rfl ?_
       first | refine pE rfl ?_ | refine pR rfl rfl rfl rfl rfl ?_ | refine pB rfl rfl rfl rfl rfl rfl ?_
       refine goG rfl rfl ?_
       refine pE rfl ?_
       refine goG rfl rfl ?_
       refine pE rfl ?_
       refine goG rfl rfl ?_
       first | refine pE rfl ?_ | refine pR rfl rfl rfl rfl rfl ?_ | refine pB rfl rfl rfl rfl rfl rfl ?_
       refine goG rfl rfl ?_
       refine pE rfl ?_
       refine goG rfl rfl ?_
       refine pE rfl ?_
       refine goG rfl rfl ?_
       iterate 3 refine pE rfl ?_
       refine WO.nil ?_
       refine qv1 rfl rfl rfl
      ·
       iterate 8 refine skipT rfl rfl rfl rfl ?_
       iterate 2 refine pE rfl ?_
       refine WO.nil ?_
       refine qv1 rfl rfl rfl
     refine qs (W.ret (qbRet (qsRet ?_)))
     refine QF.ret0 trivial rfl ?_
     show A.d (D.v (Value.bool _)) = A.d (D.v (Value.bool _)); congr 3; unfold fieldsJ; try simp only [List.length_map, JV.kc_len, hz]
     simp only [decide_eq_true_eq, decide_eq_false_iff_not] at *; simp_all <;> grind
    ·
     refine W.seq (W.region ?_)
     iterate 2 refine pE rfl ?_
     refine WO.nil (qs ?_)
     refine condK rfl (fun h56 => ?_) (fun h56 => ?_)
     ·
      refine W.seq ?_
      apply regionB; (case hb => rfl)
      ·
       refine pE rfl ?_
       first | refine pE rfl ?_ | refine pR rfl rfl rfl rfl rfl ?_ | refine pB rfl rfl rfl rfl rfl rfl ?_
       iterate 2 refine pE rfl ?_
       apply splitJ; (case hj => rfl); (case hl => rfl)
       ·
        refine goG rfl rfl ?_
        refine pE rfl ?_
        refine goG rfl rfl ?_
        first | refine pE rfl ?_ | refine pR rfl rfl rfl rfl rfl ?_ | refine pB rfl rfl rfl rfl rfl rfl ?_
        refine goG rfl rfl ?_
        iterate 3 refine pE rfl ?_
        apply splitJ; (case hj => rfl); (case hl => rfl)
        ·
         refine goG rfl rfl ?_
         refine pE rfl ?_
         refine goG rfl rfl ?_
         first | refine pE rfl ?_ | refine pR rfl rfl rfl rfl rfl ?_ | refine pB rfl rfl rfl rfl rfl rfl ?_
         refine goG rfl rfl ?_
         refine pE rfl ?_
         refine goG rfl rfl ?_
         iterate 3 refine pE rfl ?_
         refine WO.nil ?_
         refine qv1 rfl rfl rfl
        ·
         iterate 4 refine skipT rfl rfl rfl rfl ?_
         iterate 2 refine pE rfl ?_
         refine WO.nil ?_
         refine qv1 rfl rfl rfl
       ·
        iterate 3 refine skipT rfl rfl rfl rfl ?_
        iterate 2 refine pE rfl ?_
        iterate 4 refine skipT rfl rfl rfl rfl ?_
        iterate 2 refine pE rfl ?_
        refine WO.nil ?_
        refine qv1 rfl rfl rfl
      refine qs (W.ret (qbRet (qsRet ?_)))
      refine QF.ret0 trivial rfl ?_
      show A.d (D.v (Value.bool _)) = A.d (D.v (Value.bool _)); congr 3; unfold fieldsJ; try simp only [List.length_map, JV.kc_len, hz]
      simp only [decide_eq_true_eq, decide_eq_false_iff_not] at *; simp_all <;> grind
     ·
      refine W.seq (W.region ?_)
      iterate 2 refine pE rfl ?_
      refine WO.nil (qs ?_)
      refine condK rfl (fun h72 => ?_) (fun h72 => ?_)
      ·
       refine W.seq ?_
       apply regionB; (case hb => rfl)
       ·
        refine pE rfl ?_
        first | refine pE rfl ?_ | refine pR rfl rfl rfl rfl rfl ?_ | refine pB rfl rfl rfl rfl rfl rfl ?_
        iterate 2 refine pE rfl ?_
        apply splitJ; (case hj => rfl); (case hl => rfl)
        ·
         refine goG rfl rfl ?_
         refine pE rfl ?_
         refine goG rfl rfl ?_
         first | refine pE rfl ?_ | refine pR rfl rfl rfl rfl rfl ?_ | refine pB rfl rfl rfl rfl rfl rfl ?_
         refine goG rfl rfl ?_
         iterate 3 refine pE rfl ?_
         apply splitJ; (case hj => rfl); (case hl => rfl)
         ·
          refine goG rfl rfl ?_
          refine pE rfl ?_
          refine goG rfl rfl ?_
          first | refine pE rfl ?_ | refine pR rfl rfl rfl rfl rfl ?_ | refine pB rfl rfl rfl rfl rfl rfl ?_
          refine goG rfl rfl ?_
          refine pE rfl ?_
          refine goG rfl rfl ?_
          refine pE rfl ?_
          refine goG rfl rfl ?_
          first | refine pE rfl ?_ | refine pR rfl rfl rfl rfl rfl ?_ | refine pB rfl rfl rfl rfl rfl rfl ?_
          refine goG rfl rfl ?_
          refine pE rfl ?_
          refine goG rfl rfl ?_
          iterate 3 refine pE rfl ?_
          refine WO.nil ?_
          refine qv1 rfl rfl rfl
         ·
          iterate 7 refine skipT rfl rfl rfl rfl ?_
          iterate 2 refine pE rfl ?_
          refine WO.nil ?_
          refine qv1 rfl rfl rfl
        ·
         iterate 3 refine skipT rfl rfl rfl rfl ?_
         iterate 2 refine pE rfl ?_
         iterate 7 refine skipT rfl rfl rfl rfl ?_
         iterate 2 refine pE rfl ?_
         refine WO.nil ?_
         refine qv1 rfl rfl rfl
       refine qs (W.ret (qbRet (qsRet ?_)))
       refine QF.ret0 trivial rfl ?_
       show A.d (D.v (Value.bool _)) = A.d (D.v (Value.bool _)); congr 3; unfold fieldsJ; try simp only [List.length_map, JV.kc_len, hz]
       simp only [decide_eq_true_eq, decide_eq_false_iff_not] at *; simp_all <;> grind
      ·
       refine W.skip (qbN (qs (W.seq (W.region ?_))))
       refine pE rfl ?_
       refine WO.nil (qs (W.ret ?_))
       refine QF.ret0 trivial rfl ?_
       show A.d (D.v (Value.bool _)) = A.d (D.v (Value.bool _)); congr 3; unfold fieldsJ; try simp only [List.length_map, JV.kc_len, hz]
       simp only [decide_eq_true_eq, decide_eq_false_iff_not] at *; simp_all <;> grind
theorem repeated_fn (l : List ByteArray) : Does Tryd.prog 48 [.d (.sl (l.map sc))] (.d (.v (.bool (rept [] l)))) 0 := by
 refine Does.of_W (n := 19) (ts := [2]) Tryd.func48 (by kernel_rfl) rfl Tryd.ntmps48 Tryd.results48 rfl rfl fun C hC hG => ?_
 refine W.seq (W.region ?_)
 refine pE rfl ?_
 refine WO.nil (qs (W.seq (W.region ?_)))
 refine mkMap rfl ?_
 refine pE rfl ?_
 refine WO.nil (qs ?_)
 iterate 2 refine W.seq ?_
 refine W.region ?_
 iterate 3 refine pE rfl ?_
 refine WO.nil (qs (W.block ?_))
 refine W.len (t := 7) rfl rfl (fun hlen => ?_)
 try simp only [List.length_map, Ex.kc_len] at hlen
 refine W.loopR (ι := {x : Nat // match x with | k => k ≤ l.length ∧ (l.take k).Nodup ∧ rept (l.take k) (l.drop k) = rept [] l})
  (fun x => match x.1 with | k => [(3, .mp 0 (mes sk bv (seenM (l.take k)))), (9, .d (.v (.int .i64 ((k : Nat) : Int))))]) [(7, _), (8, _)]
  (fun x => match x.1 with | k => []) [] [0] 1 (fun x => match x.1 with | k => l.length - k)
  [0] ⟨0, ?_⟩ rfl ?_ ⟨rfl, rfl, rfl, rfl, trivial⟩ ?_ trivial rfl ?_
 · exact ⟨Nat.zero_le _, by simp, by simp⟩
 · repeat' first | exact trivial | refine ⟨rfl, ?_⟩ | refine ⟨congrArg some (renL_boxE _ _ _), ?_⟩ | refine ⟨step_nat (by assumption) (by assumption), ?_⟩
 · repeat' first | exact trivial | refine ⟨rfl, ?_⟩ | refine ⟨congrArg some (renL_boxE _ _ _), ?_⟩ | refine ⟨step_nat (by assumption) (by assumption), ?_⟩
 rintro ⟨k, hk, hn, hI⟩
 show W _ _ _ _ _ ⟨[(3, .mp 0 (mes sk bv (seenM (l.take k)))), (9, .d (.v (.int .i64 ((k : Nat) : Int)))), (7, _), (8, _)], [], [0], 1⟩
 refine W.seq (W.region ?_)
 refine pE rfl ?_
 refine WO.nil (qs (W.seq ?_))
 refine eachR (l := l) (k := k) rfl (by simp [Ex.kc_len, bytes_len]) hk (fun s hx hd hlt => ?_) (fun he hd => ?_)
 ·
  rw [hd] at hI
  simp only [rept] at hI
  have htk : l.take (k + 1) = l.take k ++ [s] := by rw [List.take_add_one, hx]; rfl
  refine W.skip (qs (W.seq (W.block (W.seq (W.region ?_)))))
  refine pu (indexAddr tab rfl rfl rfl rfl rfl rfl (Int.natCast_nonneg _) (idx_map hx) rfl) rfl ?_
  first | refine pE rfl ?_ | refine pR rfl rfl rfl rfl rfl ?_ | refine pB rfl rfl rfl rfl rfl rfl ?_
  refine pE rfl ?_
  refine WO.nil (qs ?_)
  iterate 2 refine W.seq ?_
  refine W.region ?_
  iterate 2 refine pE rfl ?_
  refine pu (mapGet (kf := sk) (vf := bv) (l := seenM (l.take k)) (a := s) (z := false) (zx := .bool false) tab rfl rfl rfl rfl rfl (keyStr (tab.u_str rfl rfl)) rfl rfl rfl (fun w pv => .v _ rfl) (by rw [seenM_keys]; exact hn) (congrArg bv (seenM_get hn s))) rfl ?_
  refine WO.nil (qs ?_)
  refine condK rfl (fun h15 => ?_) (fun h15 => ?_)
  ·
   rw [if_pos h15] at hI
   refine W.seq (W.region ?_)
   refine pE rfl ?_
   refine WO.nil (qs (W.ret (qsRet (qbRet (qsRet (qlRet (qbRet (qsRet ?_))))))))
   refine QF.ret0 trivial rfl ?_
   simp only [norm, oneA]; rw [← hI]
  ·
   rw [if_neg (by simp [h15])] at hI
   have hn2 := nodup_snoc hn h15
   refine W.skip (qs (W.region ?_))
   iterate 2 refine pE rfl ?_
   refine mapPut (kf := sk) (vf := bv) (l := seenM (l.take k)) (a := s) (y := true) tab 3 rfl rfl rfl rfl rfl rfl rfl (keyStr (tab.u_str rfl rfl)) rfl rfl (by rw [seenM_keys]; exact hn) (congrArg (mes sk bv) ((seenM_put h15).trans (congrArg seenM htk.symm))) rfl ?_
   refine WO.nil (qbN (qs (W.region ?_)))
   iterate 2 refine pE rfl ?_
   refine WO.nil ?_
   refine W.endR [1] ⟨k + 1, ?_⟩ ?_ rfl ?_ ⟨rfl, rfl, rfl, rfl, trivial⟩ ?_ trivial rfl
   · exact ⟨hlt, by rw [htk]; exact hn2, by rw [htk]; exact hI⟩
   · dsimp only; omega
   · repeat' first | exact trivial | refine ⟨rfl, ?_⟩ | refine ⟨congrArg some (renL_boxE _ _ _), ?_⟩ | refine ⟨step_nat (by assumption) (by assumption), ?_⟩
   · repeat' first | exact trivial | refine ⟨rfl, ?_⟩ | refine ⟨congrArg some (renL_boxE _ _ _), ?_⟩ | refine ⟨step_nat (by assumption) (by assumption), ?_⟩
 ·
  rw [hd] at hI
  simp only [rept] at hI
  refine W.exit (qsExit (qlExit (qbExit (qs (W.seq (W.region ?_))))))
  refine pE rfl ?_
  refine WO.nil (qs (W.ret ?_))
  refine QF.ret0 trivial rfl ?_
  simp only [norm, oneA]; rw [← hI]
end Go.Proofs.YtllkpgnpioojjaaDoor
namespace Go.Proofs.YtllkpgnpioojjaaDoor
open Go.Ab Go.Tb
set_option maxRecDepth 10000
attribute [local irreducible] W WO Pu QS QB QL QF QV QV1 CH QE
theorem jc_map (j : JV) : j.c = [ci j.op, ci j.n, cs j.s, .sl (j.keys.map sc), .sl (j.kids.map JV.c)] := by unfold JV.c; rw [JV.kc_eq]
theorem checkJ_eq (j : JV) (level : Int) : checkJ j level = if nodeJ j level ≠ 0 then nodeJ j level else checkJs j.kids (level + 1) := by cases j; simp only [checkJ, JV.kids]
theorem notplain_fn (s : ByteArray) : Does Tryd.prog 47 [.d (.v (.string s))] (.d (.v (.bool (!plainB s)))) 0 := by
 refine Does.of_W (n := 6) (ts := [2]) Tryd.func47 (by kernel_rfl) rfl Tryd.ntmps47 Tryd.results47 rfl rfl fun C hC hG => ?_
 refine W.seq (W.region ?_)
 refine pE rfl ?_
 refine WO.nil (qs (W.seq (W.region ?_)))
 refine pE rfl ?_
 refine pu (puCall rfl rfl rfl (plain_fn ..) rfl) rfl ?_
 iterate 2 refine pE rfl ?_
 refine WO.nil (qs (W.ret ?_))
 refine QF.ret0 trivial rfl ?_
 rfl
theorem check_fn : ∀ (j : JV) (level : Int), 0 ≤ level → level ≤ 17 → Does Tryd.prog 27 [.ag j.c, .d (.v (.int .i64 level))] (.d (.v (.int .i64 (checkJ j level)))) 0 := by
 refine JV.ind fun j ih => ?_
 intro level h0 h1
 have hfj := fields_fn j
 rw [jc_map j] at hfj ⊢
 have hkids : fieldsJ j = true → j.op < 5 → j.kids = [] := by
  intro hf hop
  unfold fieldsJ at hf
  have e5 : ¬ j.op = 5 := by omega
  have e6 : ¬ j.op = 6 := by omega
  rw [if_neg e5, if_neg e6] at hf
  refine List.length_eq_zero_iff.1 ?_
  split at hf
  · simp only [Bool.and_eq_true, decide_eq_true_eq] at hf; omega
  ·
   split at hf
   · simp only [Bool.and_eq_true, decide_eq_true_eq] at hf; omega
   ·
    split at hf
    · simp only [Bool.and_eq_true, decide_eq_true_eq] at hf; omega
    · cases hf
 refine Does.of_W (n := 70) (ts := [4]) Tryd.func27 (by kernel_rfl) rfl Tryd.ntmps27 Tryd.results27 rfl rfl fun C hC hG => ?_
 refine W.seq (W.region ?_)
 refine boxR rfl rfl rfl ?_
 refine pE rfl ?_
 refine WO.nil (qs (W.seq (W.block (W.seq (W.region ?_)))))
 first | refine pE rfl ?_ | refine pR rfl rfl rfl rfl rfl ?_ | refine pB rfl rfl rfl rfl rfl rfl ?_
 refine pu (puCall rfl rfl rfl hfj rfl) rfl ?_
 iterate 2 refine pE rfl ?_
 refine WO.nil (qs ?_)
 refine condK rfl (fun h8 => ?_) (fun h8 => ?_)
 ·
  refine W.seq (W.region ?_)
  refine pE rfl ?_
  refine WO.nil (qs (W.ret (qbRet (qsRet ?_))))
  refine QF.ret0 trivial rfl ?_
  clear ih hfj; show A.d (D.v (Value.int _ _)) = A.d (D.v (Value.int _ _)); congr 3; rw [checkJ_eq j]; unfold nodeJ; grind
 ·
  iterate 2 refine W.seq ?_
  apply regionB; (case hb => rfl)
  ·
   refine pE rfl ?_
   first | refine pE rfl ?_ | refine pR rfl rfl rfl rfl rfl ?_ | refine pB rfl rfl rfl rfl rfl rfl ?_
   iterate 2 refine pE rfl ?_
   apply splitJ; (case hj => rfl); (case hl => rfl)
   ·
    refine goG rfl rfl ?_
    refine pE rfl ?_
    refine goG rfl rfl ?_
    first | refine pE rfl ?_ | refine pR rfl rfl rfl rfl rfl ?_ | refine pB rfl rfl rfl rfl rfl rfl ?_
    refine goG rfl rfl ?_
    iterate 3 refine pE rfl ?_
    apply splitJ; (case hj => rfl); (case hl => rfl)
    ·
     refine goG rfl rfl ?_
     refine pE rfl ?_
     refine goG rfl rfl ?_
     first | refine pE rfl ?_ | refine pR rfl rfl rfl rfl rfl ?_ | refine pB rfl rfl rfl rfl rfl rfl ?_
     refine goG rfl rfl ?_
     iterate 3 refine pE rfl ?_
     refine WO.nil ?_
     refine qv1 rfl rfl rfl
    ·
     iterate 3 refine skipT rfl rfl rfl rfl ?_
     iterate 2 refine pE rfl ?_
     refine WO.nil ?_
     refine qv1 rfl rfl rfl
   ·
    iterate 3 refine skipT rfl rfl rfl rfl ?_
    iterate 2 refine pE rfl ?_
    iterate 3 refine skipT rfl rfl rfl rfl ?_
    iterate 2 refine pE rfl ?_
    refine WO.nil ?_
    refine qv1 rfl rfl rfl
  refine qs ?_
  refine condK rfl (fun h12 => ?_) (fun h12 => ?_)
  ·
   refine W.skip (qs ?_)
   refine W.condT rfl ?_
   refine W.seq (W.region ?_)
   refine pE rfl ?_
   refine WO.nil (qs (W.ret (qbRet (qsRet ?_))))
   refine QF.ret0 trivial rfl ?_
   clear ih hfj; show A.d (D.v (Value.int _ _)) = A.d (D.v (Value.int _ _)); congr 3; rw [checkJ_eq j]; unfold nodeJ; grind
  ·
   apply regionB; (case hb => rfl)
   ·
    refine pE rfl ?_
    first | refine pE rfl ?_ | refine pR rfl rfl rfl rfl rfl ?_ | refine pB rfl rfl rfl rfl rfl rfl ?_
    iterate 2 refine pE rfl ?_
    apply splitJ; (case hj => rfl); (case hl => rfl)
    ·
     refine goG rfl rfl ?_
     refine pE rfl ?_
     refine goG rfl rfl ?_
     first | refine pE rfl ?_ | refine pR rfl rfl rfl rfl rfl ?_ | refine pB rfl rfl rfl rfl rfl rfl ?_
     refine goG rfl rfl ?_
     refine pu (puCall rfl rfl rfl (in_fn ..) rfl) rfl ?_
     refine goG rfl rfl ?_
     iterate 3 refine pE rfl ?_
     refine WO.nil ?_
     refine qv1 rfl rfl rfl
    ·
     iterate 4 refine skipT rfl rfl rfl rfl ?_
     iterate 2 refine pE rfl ?_
     refine WO.nil ?_
     refine qv1 rfl rfl rfl
   refine qs ?_
   refine condK rfl (fun h12 => ?_) (fun h12 => ?_)
   ·
    refine W.seq (W.region ?_)
    refine pE rfl ?_
    refine WO.nil (qs (W.ret (qbRet (qsRet ?_))))
    refine QF.ret0 trivial rfl ?_
    clear ih hfj; show A.d (D.v (Value.int _ _)) = A.d (D.v (Value.int _ _)); congr 3; rw [checkJ_eq j]; unfold nodeJ; grind
   ·
    iterate 2 refine W.seq ?_
    refine W.region ?_
    refine pE rfl ?_
    first | refine pE rfl ?_ | refine pR rfl rfl rfl rfl rfl ?_ | refine pB rfl rfl rfl rfl rfl rfl ?_
    refine pu (puCall rfl rfl rfl (plain_fn ..) rfl) rfl ?_
    iterate 2 refine pE rfl ?_
    refine WO.nil (qs ?_)
    refine condK rfl (fun h35 => ?_) (fun h35 => ?_)
    ·
     refine W.skip (qs ?_)
     refine W.condT rfl ?_
     refine W.seq (W.region ?_)
     refine pE rfl ?_
     refine WO.nil (qs (W.ret (qbRet (qsRet ?_))))
     refine QF.ret0 trivial rfl ?_
     clear ih hfj; show A.d (D.v (Value.int _ _)) = A.d (D.v (Value.int _ _)); congr 3; rw [checkJ_eq j]; unfold nodeJ; grind
    ·
     refine W.region ?_
     refine pE rfl ?_
     first | refine pE rfl ?_ | refine pR rfl rfl rfl rfl rfl ?_ | refine pB rfl rfl rfl rfl rfl rfl ?_
     refine pu (puCall rfl rfl rfl (containsStr_fn _ [] ⟨fun _ _ => rfl, rfl⟩ _ notplain_fn j.keys) rfl) rfl ?_
     refine pE rfl ?_
     refine WO.nil (qs ?_)
     refine condK rfl (fun h35 => ?_) (fun h35 => ?_)
     ·
      refine W.seq (W.region ?_)
      refine pE rfl ?_
      refine WO.nil (qs (W.ret (qbRet (qsRet ?_))))
      refine QF.ret0 trivial rfl ?_
      clear ih hfj; show A.d (D.v (Value.int _ _)) = A.d (D.v (Value.int _ _)); congr 3; rw [checkJ_eq j]; unfold nodeJ; grind
     ·
      refine W.seq (W.region ?_)
      refine pE rfl ?_
      first | refine pE rfl ?_ | refine pR rfl rfl rfl rfl rfl ?_ | refine pB rfl rfl rfl rfl rfl rfl ?_
      refine pu (puCall rfl rfl rfl (repeated_fn ..) rfl) rfl ?_
      refine pE rfl ?_
      refine WO.nil (qs ?_)
      refine condK rfl (fun h43 => ?_) (fun h43 => ?_)
      ·
       refine W.seq (W.region ?_)
       refine pE rfl ?_
       refine WO.nil (qs (W.ret (qbRet (qsRet ?_))))
       refine QF.ret0 trivial rfl ?_
       clear ih hfj; show A.d (D.v (Value.int _ _)) = A.d (D.v (Value.int _ _)); congr 3; rw [checkJ_eq j]; unfold nodeJ; grind
      ·
       refine W.seq ?_
       apply regionB; (case hb => rfl)
       ·
        refine pE rfl ?_
        first | refine pE rfl ?_ | refine pR rfl rfl rfl rfl rfl ?_ | refine pB rfl rfl rfl rfl rfl rfl ?_
        iterate 2 refine pE rfl ?_
        apply splitJ; (case hj => rfl); (case hl => rfl)
        ·
         refine goG rfl rfl ?_
         refine pE rfl ?_
         refine goG rfl rfl ?_
         iterate 3 refine pE rfl ?_
         refine WO.nil ?_
         refine qv1 rfl rfl rfl
        ·
         iterate 2 refine skipT rfl rfl rfl rfl ?_
         iterate 2 refine pE rfl ?_
         refine WO.nil ?_
         refine qv1 rfl rfl rfl
       refine qs ?_
       refine condK rfl (fun h47 => ?_) (fun h47 => ?_)
       ·
        refine W.seq (W.region ?_)
        refine pE rfl ?_
        refine WO.nil (qs (W.ret (qbRet (qsRet ?_))))
        refine QF.ret0 trivial rfl ?_
        clear ih hfj; show A.d (D.v (Value.int _ _)) = A.d (D.v (Value.int _ _)); congr 3; rw [checkJ_eq j]; unfold nodeJ; grind
       ·
        refine W.skip (qbN (qs ?_))
        iterate 2 refine W.seq ?_
        refine W.region ?_
        refine pE rfl ?_
        first | refine pE rfl ?_ | refine pR rfl rfl rfl rfl rfl ?_ | refine pB rfl rfl rfl rfl rfl rfl ?_
        iterate 2 refine pE rfl ?_
        refine WO.nil (qs (W.block ?_))
        refine W.len (t := 56) rfl rfl (fun hlen => ?_)
        try simp only [List.length_map, Ex.kc_len] at hlen
        refine W.loopR (ι := {x : Nat // match x with | k => k ≤ j.kids.length ∧ checkJs (j.kids.drop k) (level + 1) = checkJs j.kids (level + 1)})
         (fun x => match x.1 with | k => [(58, .d (.v (.int .i64 ((k : Nat) : Int))))]) [(1, _), (56, _), (57, _)]
         (fun x => match x.1 with | k => []) [] [] 0 (fun x => match x.1 with | k => j.kids.length - k)
         [] ⟨0, ?_⟩ rfl ?_ ⟨rfl, rfl, rfl, rfl, rfl, rfl, trivial⟩ ?_ trivial rfl ?_
        · exact ⟨Nat.zero_le _, by simp⟩
        · repeat' first | exact trivial | refine ⟨rfl, ?_⟩ | refine ⟨congrArg some (renL_boxE _ _ _), ?_⟩ | refine ⟨step_nat (by assumption) (by assumption), ?_⟩
        · repeat' first | exact trivial | refine ⟨rfl, ?_⟩ | refine ⟨congrArg some (renL_boxE _ _ _), ?_⟩ | refine ⟨step_nat (by assumption) (by assumption), ?_⟩
        rintro ⟨k, hk, hI⟩
        show W _ _ _ _ _ ⟨[(58, .d (.v (.int .i64 ((k : Nat) : Int)))), (1, _), (56, _), (57, _)], [], [], 0⟩
        refine W.seq (W.region ?_)
        refine pE rfl ?_
        refine WO.nil (qs (W.seq ?_))
        refine eachR (l := j.kids) (k := k) rfl (by simp [Ex.kc_len, bytes_len]) hk (fun x hx hd hlt => ?_) (fun he hd => ?_)
        ·
         rw [hd] at hI
         simp only [checkJs] at hI
         have hlv : level ≤ 16 := by
          by_cases q : j.op < 5
          · rw [hkids (by simpa using h8) q] at hlt; simp at hlt
          · revert h47; simp; omega
         have hxc := ih x (List.mem_of_getElem? hx) (level + 1) (by omega) (by omega)
         refine W.skip (qs (W.seq (W.block (W.seq (W.region ?_)))))
         refine pu (indexAddr tab rfl rfl rfl rfl rfl rfl (Int.natCast_nonneg _) (idx_map hx) rfl) rfl ?_
         first | refine pE rfl ?_ | refine pR rfl rfl rfl rfl rfl ?_ | refine pB rfl rfl rfl rfl rfl rfl ?_
         refine allocR tab rfl rfl rfl ?_
         refine storeR tab rfl rfl rfl rfl rfl rfl rfl rfl ?_
         refine WO.nil (qs (W.seq (W.region ?_)))
         first | refine pE rfl ?_ | refine pR rfl rfl rfl rfl rfl ?_ | refine pB rfl rfl rfl rfl rfl rfl ?_
         refine pE rfl ?_
         refine pu (puI (ev tab rfl) (wrap64 (by omega))) rfl ?_
         refine pu (puCall rfl rfl rfl hxc rfl) rfl ?_
         refine pE rfl ?_
         refine WO.nil (qs (W.seq (W.region ?_)))
         iterate 2 refine pE rfl ?_
         refine WO.nil (qs ?_)
         refine condK rfl (fun h67 => ?_) (fun h67 => ?_)
         ·
          have hc : checkJ x (level + 1) ≠ 0 := by simpa using h67
          rw [if_pos hc] at hI
          refine W.seq (W.region ?_)
          iterate 2 refine pE rfl ?_
          refine WO.nil (qs (W.ret (qbRet (qsRet (qlRet (qbRet (qsRet ?_)))))))
          refine QF.ret0 trivial rfl ?_
          clear ih hfj; show A.d (D.v (Value.int _ _)) = A.d (D.v (Value.int _ _)); congr 3; rw [checkJ_eq j]; unfold nodeJ; grind
         ·
          have hc : checkJ x (level + 1) = 0 := by simpa using h67
          rw [if_neg (by simp [hc])] at hI
          refine W.skip (qbN (qs (W.region ?_)))
          iterate 2 refine pE rfl ?_
          refine WO.nil ?_
          refine W.endR [] ⟨k + 1, ?_⟩ ?_ rfl ?_ ⟨rfl, rfl, rfl, rfl, rfl, rfl, trivial⟩ ?_ trivial rfl
          · exact ⟨hlt, hI⟩
          · dsimp only; omega
          · repeat' first | exact trivial | refine ⟨rfl, ?_⟩ | refine ⟨congrArg some (renL_boxE _ _ _), ?_⟩ | refine ⟨step_nat (by assumption) (by assumption), ?_⟩
          · repeat' first | exact trivial | refine ⟨rfl, ?_⟩ | refine ⟨congrArg some (renL_boxE _ _ _), ?_⟩ | refine ⟨step_nat (by assumption) (by assumption), ?_⟩
        ·
         rw [hd] at hI
         simp only [checkJs] at hI
         refine W.exit (qsExit (qlExit (qbExit (qs (W.seq (W.region ?_))))))
         refine pE rfl ?_
         refine WO.nil (qs (W.ret ?_))
         refine QF.ret0 trivial rfl ?_
         clear ih hfj; show A.d (D.v (Value.int _ _)) = A.d (D.v (Value.int _ _)); congr 3; rw [checkJ_eq j]; unfold nodeJ; grind
end Go.Proofs.YtllkpgnpioojjaaDoor
namespace Go.Proofs.YtllkpgnpioojjaaDoor
open Go.Ab Go.Tb
set_option maxRecDepth 10000
attribute [local irreducible] W WO Pu QS QB QL QF QV QV1 CH QE
theorem printable_fn (b : UInt8) : Does Tryd.prog 80 [.d (.v (.int .u8 b.toNat))] (.d (.v (.bool (known b)))) 0 := by
 refine Does.of_W (n := 17) (ts := [2]) Tryd.func80 (by kernel_rfl) rfl Tryd.ntmps80 Tryd.results80 rfl rfl fun C hC hG => ?_
 refine W.seq (W.region ?_)
 refine pE rfl ?_
 refine WO.nil (qs (W.seq ?_))
 apply regionB; (case hb => rfl)
 ·
  iterate 3 refine pE rfl ?_
  apply splitJ; (case hj => rfl); (case hl => rfl)
  ·
   iterate 2 refine skipT rfl rfl rfl rfl ?_
   iterate 2 refine pE rfl ?_
   iterate 3 refine skipT rfl rfl rfl rfl ?_
   iterate 2 refine skipU rfl rfl rfl ?_
   refine skipT rfl rfl rfl rfl ?_
   iterate 2 refine pE rfl ?_
   refine WO.nil ?_
   refine qv1 rfl rfl rfl
  ·
   refine goG rfl rfl ?_
   refine pE rfl ?_
   refine goG rfl rfl ?_
   iterate 3 refine pE rfl ?_
   apply splitJ; (case hj => rfl); (case hl => rfl)
   ·
    iterate 3 refine skipT rfl rfl rfl rfl ?_
    iterate 2 refine skipU rfl rfl rfl ?_
    refine skipT rfl rfl rfl rfl ?_
    iterate 2 refine pE rfl ?_
    refine WO.nil ?_
    refine qv1 rfl rfl rfl
   ·
    refine goG rfl rfl ?_
    refine pE rfl ?_
    refine goG rfl rfl ?_
    refine pE rfl ?_
    refine goG rfl rfl ?_
    refine pE rfl ?_
    apply splitJ; (case hj => rfl); (case hl => rfl)
    ·
     refine goG rfl rfl ?_
     refine pE rfl ?_
     refine goG rfl rfl ?_
     refine pE rfl ?_
     refine goG rfl rfl ?_
     iterate 3 refine pE rfl ?_
     refine WO.nil ?_
     refine qv1 rfl rfl rfl
    ·
     iterate 2 refine skipT rfl rfl rfl rfl ?_
     refine goG rfl rfl ?_
     iterate 3 refine pE rfl ?_
     refine WO.nil ?_
     refine qv1 rfl rfl rfl
 refine qs (W.ret ?_)
 refine QF.ret0 trivial rfl ?_
 show A.d (D.v (Value.bool _)) = A.d (D.v (Value.bool _)); congr 3; unfold known; generalize b.toNat = n; simp only [show ((n : Int) = 9) = (n = 9) from propext (by omega), show ((n : Int) = 10) = (n = 10) from propext (by omega), show ((32 : Int) ≤ n) = (32 ≤ n) from propext (by omega), show ((n : Int) ≤ 126) = (n ≤ 126) from propext (by omega)]; cases decide (n = 9) <;> cases decide (n = 10) <;> cases decide (32 ≤ n) <;> cases decide (n ≤ 126) <;> rfl
theorem has21_fn (l : List ByteArray) (s : ByteArray) : Does Tryd.prog 69 [.d (.sl (l.map sc)), .d (.v (.string s))] (.d (.v (.bool (l.any fun x => decide (x = s))))) 0 := by
 refine Does.of_W (n := 18) (ts := [4]) Tryd.func69 (by kernel_rfl) rfl Tryd.ntmps69 Tryd.results69 rfl rfl fun C hC hG => ?_
 refine W.seq (W.region ?_)
 refine pE rfl ?_
 refine WO.nil (qs ?_)
 iterate 2 refine W.seq ?_
 refine W.region ?_
 refine pE rfl ?_
 refine WO.nil (qs (W.block ?_))
 refine W.len (t := 0) rfl rfl (fun hlen => ?_)
 try simp only [List.length_map, Ex.kc_len] at hlen
 refine W.loopR (ι := {x : Nat // match x with | k => k ≤ l.length ∧ (l.drop k).any (fun x => decide (x = s)) = l.any (fun x => decide (x = s))})
  (fun x => match x.1 with | k => [(5, .d (.v (.int .i64 ((k : Nat) : Int))))]) [(0, _), (1, _)]
  (fun x => match x.1 with | k => []) [] [] 0 (fun x => match x.1 with | k => l.length - k)
  [] ⟨0, ?_⟩ rfl ?_ ⟨rfl, rfl, rfl, rfl, trivial⟩ ?_ trivial rfl ?_
 · exact ⟨Nat.zero_le _, by simp⟩
 · repeat' first | exact trivial | refine ⟨rfl, ?_⟩ | refine ⟨congrArg some (renL_boxE _ _ _), ?_⟩ | refine ⟨step_nat (by assumption) (by assumption), ?_⟩
 · repeat' first | exact trivial | refine ⟨rfl, ?_⟩ | refine ⟨congrArg some (renL_boxE _ _ _), ?_⟩ | refine ⟨step_nat (by assumption) (by assumption), ?_⟩
 rintro ⟨k, hk, hI⟩
 show W _ _ _ _ _ ⟨[(5, .d (.v (.int .i64 ((k : Nat) : Int)))), (0, _), (1, _)], [], [], 0⟩
 iterate 2 refine W.seq ?_
 refine W.region ?_
 iterate 4 refine pE rfl ?_
 refine WO.nil (qs ?_)
 refine eachR (l := l) (k := k) rfl (by simp [Ex.kc_len, bytes_len]) hk (fun x hx hd hlt => ?_) (fun he hd => ?_)
 ·
  rw [hd, List.any_cons] at hI
  refine W.skip (qs (W.seq (W.block (W.seq (W.region ?_)))))
  iterate 2 refine pE rfl ?_
  refine pu (indexAddr tab rfl rfl rfl rfl rfl rfl (Int.natCast_nonneg _) (idx_map (by assumption)) rfl) rfl ?_
  first | refine pE rfl ?_ | refine pR rfl rfl rfl rfl rfl ?_ | refine pB rfl rfl rfl rfl rfl rfl ?_
  iterate 2 refine pE rfl ?_
  refine WO.nil (qs ?_)
  refine condK rfl (fun h17 => ?_) (fun h17 => ?_)
  ·
   refine W.seq (W.region ?_)
   refine pE rfl ?_
   refine WO.nil (qs (W.ret (qbRet (qsRet (qlRet (qbRet (qsRet ?_)))))))
   refine QF.ret0 trivial rfl ?_
   simp only [norm, oneA]; rw [← hI]; try simp_all
  ·
   refine W.skip (qbN (qs (W.region ?_)))
   iterate 3 refine pE rfl ?_
   refine WO.nil ?_
   refine W.endR [] ⟨k + 1, ?_⟩ ?_ rfl ?_ ⟨rfl, rfl, rfl, rfl, trivial⟩ ?_ trivial rfl
   · exact ⟨hlt, by rw [← hI]; simp_all⟩
   · dsimp only; omega
   · repeat' first | exact trivial | refine ⟨rfl, ?_⟩ | refine ⟨congrArg some (renL_boxE _ _ _), ?_⟩ | refine ⟨step_nat (by assumption) (by assumption), ?_⟩
   · repeat' first | exact trivial | refine ⟨rfl, ?_⟩ | refine ⟨congrArg some (renL_boxE _ _ _), ?_⟩ | refine ⟨step_nat (by assumption) (by assumption), ?_⟩
 ·
  rw [hd, List.any_nil] at hI
  refine W.exit (qsExit (qlExit (qbExit (qs (W.seq (W.region ?_))))))
  refine pE rfl ?_
  refine WO.nil (qs (W.ret ?_))
  refine QF.ret0 trivial rfl ?_
  simp only [norm, oneA]; rw [← hI]; try simp_all
end Go.Proofs.YtllkpgnpioojjaaDoor
namespace Go.Proofs.YtllkpgnpioojjaaDoor
open Go.Ab Go.Tb
set_option maxRecDepth 10000
attribute [local irreducible] W WO Pu QS QB QL QF QV QV1 CH QE
theorem pCheck_fn (j : JV) : Does Tryd.prog 15 [.ag j.c] (.d (.v (.int .i64 (checkJ j 1)))) 0 := by
 have h := check_fn j 1 (by omega) (by omega)
 rw [jc_map j] at h ⊢
 refine Does.of_W (n := 5) (ts := [2]) Tryd.func15 (by kernel_rfl) rfl Tryd.ntmps15 Tryd.results15 rfl rfl fun C hC hG => ?_
 refine W.seq (W.region ?_)
 refine boxR rfl rfl rfl ?_
 refine pE rfl ?_
 refine WO.nil (qs (W.seq (W.region ?_)))
 first | refine pE rfl ?_ | refine pR rfl rfl rfl rfl rfl ?_ | refine pB rfl rfl rfl rfl rfl rfl ?_
 refine pu (puCall rfl rfl rfl h rfl) rfl ?_
 refine pE rfl ?_
 refine WO.nil (qs (W.ret ?_))
 refine QF.ret0 trivial rfl ?_
 rfl
end Go.Proofs.YtllkpgnpioojjaaDoor
namespace Go.Proofs.YtllkpgnpioojjaaDoor
open Go.Ab Go.Tb
set_option maxRecDepth 10000
attribute [local irreducible] W WO Pu QS QB QL QF QV QV1 CH QE
def oJ (o : Option JV) : JV := o.getD zeroJ
theorem getJ_no {j : JV} {key : ByteArray} (h : j.op ≠ 6) : getJ j key = none := by unfold getJ; rw [if_neg h]
theorem getJ_idx {j : JV} {key : ByteArray} {k : Nat} (h : j.op = 6) (hi : (j.keys.findIdx? fun x => decide (key = x)) = some k) : getJ j key = j.kids[k]? := by unfold getJ; rw [if_pos h, hi]
theorem getJ_none {j : JV} {key : ByteArray} (hi : (j.keys.findIdx? fun x => decide (key = x)) = none) : getJ j key = none := by unfold getJ; rw [hi]; simp
theorem pGet_fn (j : JV) (key : ByteArray) : Does Tryd.prog 13 [.ag j.c, .d (.v (.string key))] (.tup [.ag (oJ (getJ j key)).c, .d (.v (.bool (getJ j key).isSome))]) 0 := by
 rw [jc_map j]
 refine Does.of_V tab (n := 31) (rs := [.cell 4 26, .tmp 5]) Tryd.func13 (by kernel_rfl) rfl Tryd.ntmps13 Tryd.results13 rfl fun C hC hG => ?_
 refine W.seq (W.region ?_)
 refine boxR rfl rfl rfl ?_
 refine allocR tab rfl rfl rfl ?_
 refine pE rfl ?_
 refine WO.nil (qs (W.seq (W.region ?_)))
 refine pE rfl ?_
 first | refine pE rfl ?_ | refine pR rfl rfl rfl rfl rfl ?_ | refine pB rfl rfl rfl rfl rfl rfl ?_
 refine pE rfl ?_
 refine pu (puCall rfl rfl rfl (index_fn j.keys key) rfl) rfl ?_
 refine pE rfl ?_
 refine WO.nil (qs ?_)
 iterate 2 refine W.seq ?_
 apply regionB; (case hb => rfl)
 ·
  refine pE rfl ?_
  first | refine pE rfl ?_ | refine pR rfl rfl rfl rfl rfl ?_ | refine pB rfl rfl rfl rfl rfl rfl ?_
  iterate 2 refine pE rfl ?_
  apply splitJ; (case hj => rfl); (case hl => rfl)
  ·
   iterate 2 refine skipT rfl rfl rfl rfl ?_
   iterate 2 refine pE rfl ?_
   iterate 5 refine skipT rfl rfl rfl rfl ?_
   refine pE rfl ?_
   refine WO.nil ?_
   refine qv1 rfl rfl rfl
  ·
   refine goG rfl rfl ?_
   refine pE rfl ?_
   refine goG rfl rfl ?_
   iterate 3 refine pE rfl ?_
   apply splitJ; (case hj => rfl); (case hl => rfl)
   ·
    iterate 5 refine skipT rfl rfl rfl rfl ?_
    refine pE rfl ?_
    refine WO.nil ?_
    refine qv1 rfl rfl rfl
   ·
    refine goG rfl rfl ?_
    refine pE rfl ?_
    refine goG rfl rfl ?_
    refine pE rfl ?_
    refine goG rfl rfl ?_
    first | refine pE rfl ?_ | refine pR rfl rfl rfl rfl rfl ?_ | refine pB rfl rfl rfl rfl rfl rfl ?_
    refine goG rfl rfl ?_
    refine pE rfl ?_
    refine goG rfl rfl ?_
    iterate 2 refine pE rfl ?_
    refine WO.nil ?_
    refine qv1 rfl rfl rfl
 refine qs ?_
 refine condK rfl (fun h24 => ?_) (fun h24 => ?_)
 ·
  have hg : getJ j key = none := by
   by_cases ho : j.op = 6
   ·
    cases hi : (j.keys.findIdx? fun x => decide (key = x)) with
    | none => exact getJ_none hi
    | some k =>
     rw [getJ_idx ho hi]
     rw [hi, show idx (some k) = (k : Int) from rfl] at h24
     simp [ho] at h24 ⊢
     omega
   · exact getJ_no ho
  refine W.seq (W.region ?_)
  refine pu (build tab rfl rfl rfl rfl) rfl ?_
  try refine nilO 25 rfl rfl rfl ?_
  refine storeR tab rfl rfl rfl rfl rfl rfl rfl rfl ?_
  refine pE rfl ?_
  refine WO.nil (qs (W.ret (qsRet ?_)))
  refine QV.ret0 tab trivial rfl ?_
  rw [hg]; rfl
 ·
  obtain ⟨k, y, hk, hy, hg⟩ : ∃ (k : Nat) (y : JV), idx (j.keys.findIdx? fun x => decide (key = x)) = (k : Int) ∧ j.kids[k]? = some y ∧ getJ j key = some y := by
   by_cases ho : j.op = 6
   ·
    cases hi : (j.keys.findIdx? fun x => decide (key = x)) with
    | none => rw [hi] at h24; simp [idx] at h24
    | some k =>
     rw [hi] at h24
     rw [show idx (some k) = (k : Int) from rfl] at h24
     have hkl : k < j.kids.length := by simp [ho] at h24; omega
     exact ⟨k, j.kids[k], rfl, by simp [hkl], by rw [getJ_idx ho hi]; simp [hkl]⟩
   · simp [ho] at h24
  rw [hk]
  refine W.skip (qs (W.seq (W.region ?_)))
  refine pE rfl ?_
  first | refine pE rfl ?_ | refine pR rfl rfl rfl rfl rfl ?_ | refine pB rfl rfl rfl rfl rfl rfl ?_
  refine pE rfl ?_
  refine pu (indexAddr (l := y.c) tab rfl rfl rfl rfl rfl rfl (Int.natCast_nonneg _) (idx_map hy) rfl) rfl ?_
  first | refine pE rfl ?_ | refine pR rfl rfl rfl rfl rfl ?_ | refine pB rfl rfl rfl rfl rfl rfl ?_
  refine storeR tab rfl rfl rfl rfl rfl rfl rfl rfl ?_
  refine pE rfl ?_
  refine WO.nil (qs (W.ret ?_))
  refine QV.ret0 tab trivial rfl ?_
  rw [hg]; rfl
end Go.Proofs.YtllkpgnpioojjaaDoor
namespace Go.Proofs.YtllkpgnpioojjaaDoor
open Go.Ab Go.Tb
set_option maxRecDepth 10000
attribute [local irreducible] W WO Pu QS QB QL QF QV QV1 CH QE
theorem eq5 (a b : JV) : eqJ a b = (decide (a.op = b.op) && (decide (a.n = b.n) && (decide (a.s = b.s) && (decide (a.keys = b.keys) && eqJs a.kids b.kids)))) := by cases a; cases b; rfl
theorem eq_no {a b : JV} (h : a ≠ b) : eqJ a b = false := by
 cases he : eqJ a b with
 | false => rfl
 | true => exact absurd ((eqJ_iff a b).1 he) h
theorem rSame_fn : ∀ (a b : JV), Does Tryd.prog 17 [.ag a.c, .ag b.c] (.d (.v (.bool (eqJ a b)))) 0 := by
 refine JV.ind fun a ih => ?_
 intro b
 rw [jc_map a, jc_map b]
 refine Does.of_W (n := 81) (ts := [4]) Tryd.func17 (by kernel_rfl) rfl Tryd.ntmps17 Tryd.results17 rfl rfl fun C hC hG => ?_
 refine W.seq (W.region ?_)
 refine boxR rfl rfl rfl ?_
 refine boxR rfl rfl rfl ?_
 refine pE rfl ?_
 refine WO.nil (qs ?_)
 iterate 2 refine W.seq ?_
 apply regionB; (case hb => rfl)
 ·
  refine pE rfl ?_
  first | refine pE rfl ?_ | refine pR rfl rfl rfl rfl rfl ?_ | refine pB rfl rfl rfl rfl rfl rfl ?_
  refine pE rfl ?_
  first | refine pE rfl ?_ | refine pR rfl rfl rfl rfl rfl ?_ | refine pB rfl rfl rfl rfl rfl rfl ?_
  iterate 2 refine pE rfl ?_
  apply splitJ; (case hj => rfl); (case hl => rfl)
  ·
   iterate 5 refine skipT rfl rfl rfl rfl ?_
   iterate 2 refine pE rfl ?_
   iterate 5 refine skipT rfl rfl rfl rfl ?_
   iterate 2 refine pE rfl ?_
   iterate 7 refine skipT rfl rfl rfl rfl ?_
   iterate 2 refine pE rfl ?_
   iterate 7 refine skipT rfl rfl rfl rfl ?_
   refine pE rfl ?_
   refine WO.nil ?_
   refine qv1 rfl rfl rfl
  ·
   refine goG rfl rfl ?_
   refine pE rfl ?_
   refine goG rfl rfl ?_
   first | refine pE rfl ?_ | refine pR rfl rfl rfl rfl rfl ?_ | refine pB rfl rfl rfl rfl rfl rfl ?_
   refine goG rfl rfl ?_
   refine pE rfl ?_
   refine goG rfl rfl ?_
   first | refine pE rfl ?_ | refine pR rfl rfl rfl rfl rfl ?_ | refine pB rfl rfl rfl rfl rfl rfl ?_
   refine goG rfl rfl ?_
   iterate 3 refine pE rfl ?_
   apply splitJ; (case hj => rfl); (case hl => rfl)
   ·
    iterate 5 refine skipT rfl rfl rfl rfl ?_
    iterate 2 refine pE rfl ?_
    iterate 7 refine skipT rfl rfl rfl rfl ?_
    iterate 2 refine pE rfl ?_
    iterate 7 refine skipT rfl rfl rfl rfl ?_
    refine pE rfl ?_
    refine WO.nil ?_
    refine qv1 rfl rfl rfl
   ·
    refine goG rfl rfl ?_
    refine pE rfl ?_
    refine goG rfl rfl ?_
    first | refine pE rfl ?_ | refine pR rfl rfl rfl rfl rfl ?_ | refine pB rfl rfl rfl rfl rfl rfl ?_
    refine goG rfl rfl ?_
    refine pE rfl ?_
    refine goG rfl rfl ?_
    first | refine pE rfl ?_ | refine pR rfl rfl rfl rfl rfl ?_ | refine pB rfl rfl rfl rfl rfl rfl ?_
    refine goG rfl rfl ?_
    iterate 3 refine pE rfl ?_
    apply splitJ; (case hj => rfl); (case hl => rfl)
    ·
     iterate 7 refine skipT rfl rfl rfl rfl ?_
     iterate 2 refine pE rfl ?_
     iterate 7 refine skipT rfl rfl rfl rfl ?_
     refine pE rfl ?_
     refine WO.nil ?_
     refine qv1 rfl rfl rfl
    ·
     refine goG rfl rfl ?_
     refine pE rfl ?_
     refine goG rfl rfl ?_
     first | refine pE rfl ?_ | refine pR rfl rfl rfl rfl rfl ?_ | refine pB rfl rfl rfl rfl rfl rfl ?_
     refine goG rfl rfl ?_
     refine pE rfl ?_
     refine goG rfl rfl ?_
     refine pE rfl ?_
     refine goG rfl rfl ?_
     first | refine pE rfl ?_ | refine pR rfl rfl rfl rfl rfl ?_ | refine pB rfl rfl rfl rfl rfl rfl ?_
     refine goG rfl rfl ?_
     refine pE rfl ?_
     refine goG rfl rfl ?_
     iterate 3 refine pE rfl ?_
     apply splitJ; (case hj => rfl); (case hl => rfl)
     ·
      iterate 7 refine skipT rfl rfl rfl rfl ?_
      refine pE rfl ?_
      refine WO.nil ?_
      refine qv1 rfl rfl rfl
     ·
      refine goG rfl rfl ?_
      refine pE rfl ?_
      refine goG rfl rfl ?_
      first | refine pE rfl ?_ | refine pR rfl rfl rfl rfl rfl ?_ | refine pB rfl rfl rfl rfl rfl rfl ?_
      refine goG rfl rfl ?_
      refine pE rfl ?_
      refine goG rfl rfl ?_
      refine pE rfl ?_
      refine goG rfl rfl ?_
      first | refine pE rfl ?_ | refine pR rfl rfl rfl rfl rfl ?_ | refine pB rfl rfl rfl rfl rfl rfl ?_
      refine goG rfl rfl ?_
      refine pE rfl ?_
      refine goG rfl rfl ?_
      iterate 2 refine pE rfl ?_
      refine WO.nil ?_
      refine qv1 rfl rfl rfl
 refine qs ?_
 refine condK rfl (fun h43 => ?_) (fun h43 => ?_)
 ·
  have hg : eqJ a b = false := eq_no (by rintro rfl; simp at h43)
  refine W.seq (W.region ?_)
  refine pE rfl ?_
  refine WO.nil (qs (W.ret (qsRet ?_)))
  refine QF.ret0 trivial rfl ?_
  rw [hg]; rfl
 ·
  have q : a.op = b.op ∧ a.n = b.n ∧ a.s = b.s ∧ a.keys.length = b.keys.length ∧ a.kids.length = b.kids.length := by
   simp only [List.length_map] at h43; grind
  refine W.skip (qs ?_)
  iterate 2 refine W.seq ?_
  refine W.region ?_
  refine pE rfl ?_
  refine WO.nil (qs (W.block ?_))
  refine lenBox (g := 0) (j := 3) rfl rfl (fun hlen => ?_)
  rw [List.length_map] at hlen
  refine W.loopR (ι := {x : Nat // match x with | k => k ≤ a.keys.length ∧ (a.keys.drop k = b.keys.drop k ↔ a.keys = b.keys)})
   (fun x => match x.1 with | k => [(2, .ptr 0 0), (3, .ptr 1 0), (5, .d (.v (.int .i64 ((k : Nat) : Int))))]) []
   (fun x => match x.1 with | k => [(0, [.d (ci a.op), .d (ci a.n), .d (cs a.s), .d (.sl (a.keys.map sc)), .d (.sl (a.kids.map JV.c))]), (1, [.d (ci b.op), .d (ci b.n), .d (cs b.s), .d (.sl (b.keys.map sc)), .d (.sl (b.kids.map JV.c))])]) [] [] 2 (fun x => match x.1 with | k => a.keys.length - k)
   [0, 1] ⟨0, ?_⟩ rfl ?_ trivial ?_ trivial rfl ?_
  · exact ⟨Nat.zero_le _, by simp⟩
  · repeat' first | exact trivial | refine ⟨rfl, ?_⟩ | refine ⟨congrArg some (renL_boxE _ _ _), ?_⟩ | refine ⟨step_nat (by assumption) (by assumption), ?_⟩
  · repeat' first | exact trivial | refine ⟨rfl, ?_⟩ | refine ⟨congrArg some (renL_boxE _ _ _), ?_⟩ | refine ⟨step_nat (by assumption) (by assumption), ?_⟩
  rintro ⟨k, hk, hI⟩
  show W _ _ _ _ _ ⟨[(2, .ptr 0 0), (3, .ptr 1 0), (5, .d (.v (.int .i64 ((k : Nat) : Int))))], [(0, [.d (ci a.op), .d (ci a.n), .d (cs a.s), .d (.sl (a.keys.map sc)), .d (.sl (a.kids.map JV.c))]), (1, [.d (ci b.op), .d (ci b.n), .d (cs b.s), .d (.sl (b.keys.map sc)), .d (.sl (b.kids.map JV.c))])], [], 2⟩
  iterate 2 refine W.seq ?_
  refine W.region ?_
  iterate 2 refine pE rfl ?_
  first | refine pE rfl ?_ | refine pR rfl rfl rfl rfl rfl ?_ | refine pB rfl rfl rfl rfl rfl rfl ?_
  iterate 2 refine pE rfl ?_
  refine WO.nil (qs ?_)
  refine eachR (l := a.keys) (k := k) rfl (by simp [Ex.kc_len, bytes_len]) hk (fun x hx hd hlt => ?_) (fun he hd => ?_)
  ·
   obtain ⟨y, hy, hyd⟩ := exAt (l := b.keys) (k := k) (by omega)
   rw [hd, hyd] at hI
   refine W.skip (qs (W.seq (W.block (W.seq ?_))))
   refine W.regionD tab (by kernel_rfl) ?_
   refine chPu (ev tab rfl) rfl ?_
   first | refine chPu (ev tab rfl) rfl ?_ | refine chPu (loadRow tab rfl rfl rfl rfl) rfl ?_ | refine chPu (loadBox tab rfl rfl rfl rfl rfl) rfl ?_
   refine chPu (ev tab rfl) rfl ?_
   refine chPu (indexAddr tab rfl rfl rfl rfl rfl rfl (Int.natCast_nonneg _) (idx_map hx) rfl) rfl ?_
   first | refine chPu (ev tab rfl) rfl ?_ | refine chPu (loadRow tab rfl rfl rfl rfl) rfl ?_ | refine chPu (loadBox tab rfl rfl rfl rfl rfl) rfl ?_
   refine chPu (ev tab rfl) rfl ?_
   first | refine chPu (ev tab rfl) rfl ?_ | refine chPu (loadRow tab rfl rfl rfl rfl) rfl ?_ | refine chPu (loadBox tab rfl rfl rfl rfl rfl) rfl ?_
   refine chPu (ev tab rfl) rfl ?_
   refine chPu (indexAddr tab rfl rfl rfl rfl rfl rfl (Int.natCast_nonneg _) (idx_map hy) rfl) rfl ?_
   first | refine chPu (ev tab rfl) rfl ?_ | refine chPu (loadRow tab rfl rfl rfl rfl) rfl ?_ | refine chPu (loadBox tab rfl rfl rfl rfl rfl) rfl ?_
   refine chPu (ev tab rfl) rfl ?_
   refine CH.nil ?_
   refine qs ?_
   refine condK rfl (fun h61 => ?_) (fun h61 => ?_)
   ·
    have hxy : x ≠ y := by rintro rfl; simp at h61
    have hg : eqJ a b = false := eq_no (by rintro rfl; rw [hx] at hy; cases hy; exact hxy rfl)
    refine W.seq (W.region ?_)
    refine pE rfl ?_
    refine WO.nil (qs (W.ret (qbRet (qsRet (qlRet (qbRet (qsRet ?_)))))))
    refine QF.ret0 trivial rfl ?_
    rw [hg]; rfl
   ·
    have hxy : x = y := by simpa using h61
    refine W.skip (qbN (qs (W.region ?_)))
    iterate 3 refine pE rfl ?_
    refine WO.nil ?_
    refine W.endR [0, 1] ⟨k + 1, ?_⟩ ?_ rfl ?_ trivial ?_ trivial rfl
    · exact ⟨hlt, by rw [← hI, hxy]; simp⟩
    · dsimp only; omega
    · repeat' first | exact trivial | refine ⟨rfl, ?_⟩ | refine ⟨congrArg some (renL_boxE _ _ _), ?_⟩ | refine ⟨step_nat (by assumption) (by assumption), ?_⟩
    · repeat' first | exact trivial | refine ⟨rfl, ?_⟩ | refine ⟨congrArg some (renL_boxE _ _ _), ?_⟩ | refine ⟨step_nat (by assumption) (by assumption), ?_⟩
  ·
   rw [hd, dropEnd (l := b.keys) (by omega)] at hI
   have qk : a.keys = b.keys := hI.1 rfl
   refine W.exit (qsExit (qlExit (qbExit (qs ?_))))
   iterate 2 refine W.seq ?_
   refine W.region ?_
   refine pE rfl ?_
   refine WO.nil (qs (W.block ?_))
   refine lenBox (g := 0) (j := 4) rfl rfl (fun hlen => ?_)
   rw [List.length_map] at hlen
   refine W.loopR (ι := {x : Nat // match x with | k => k ≤ a.kids.length ∧ eqJs (a.kids.drop k) (b.kids.drop k) = eqJs a.kids b.kids})
    (fun x => match x.1 with | k => [(2, .ptr 0 0), (3, .ptr 1 0), (6, .d (.v (.int .i64 ((k : Nat) : Int))))]) []
    (fun x => match x.1 with | k => [(0, [.d (ci a.op), .d (ci a.n), .d (cs a.s), .d (.sl (a.keys.map sc)), .d (.sl (a.kids.map JV.c))]), (1, [.d (ci b.op), .d (ci b.n), .d (cs b.s), .d (.sl (b.keys.map sc)), .d (.sl (b.kids.map JV.c))])]) [] [] 2 (fun x => match x.1 with | k => a.kids.length - k)
    [0, 1] ⟨0, ?_⟩ rfl ?_ trivial ?_ trivial rfl ?_
   · exact ⟨Nat.zero_le _, by simp⟩
   · repeat' first | exact trivial | refine ⟨rfl, ?_⟩ | refine ⟨congrArg some (renL_boxE _ _ _), ?_⟩ | refine ⟨step_nat (by assumption) (by assumption), ?_⟩
   · repeat' first | exact trivial | refine ⟨rfl, ?_⟩ | refine ⟨congrArg some (renL_boxE _ _ _), ?_⟩ | refine ⟨step_nat (by assumption) (by assumption), ?_⟩
   rintro ⟨k, hk, hI⟩
   show W _ _ _ _ _ ⟨[(2, .ptr 0 0), (3, .ptr 1 0), (6, .d (.v (.int .i64 ((k : Nat) : Int))))], [(0, [.d (ci a.op), .d (ci a.n), .d (cs a.s), .d (.sl (a.keys.map sc)), .d (.sl (a.kids.map JV.c))]), (1, [.d (ci b.op), .d (ci b.n), .d (cs b.s), .d (.sl (b.keys.map sc)), .d (.sl (b.kids.map JV.c))])], [], 2⟩
   iterate 2 refine W.seq ?_
   refine W.region ?_
   iterate 2 refine pE rfl ?_
   first | refine pE rfl ?_ | refine pR rfl rfl rfl rfl rfl ?_ | refine pB rfl rfl rfl rfl rfl rfl ?_
   iterate 2 refine pE rfl ?_
   refine WO.nil (qs ?_)
   refine eachR (l := a.kids) (k := k) rfl (by simp [Ex.kc_len, bytes_len]) hk (fun x hx hd hlt => ?_) (fun he hd => ?_)
   ·
    obtain ⟨y, hy, hyd⟩ := exAt (l := b.kids) (k := k) (by omega)
    rw [hd, hyd] at hI
    simp only [eqJs] at hI
    have hxy := ih x (List.mem_of_getElem? hx) y
    refine W.skip (qs (W.seq (W.block (W.seq ?_))))
    refine W.regionD tab (by kernel_rfl) ?_
    refine chPu (ev tab rfl) rfl ?_
    first | refine chPu (ev tab rfl) rfl ?_ | refine chPu (loadRow tab rfl rfl rfl rfl) rfl ?_ | refine chPu (loadBox tab rfl rfl rfl rfl rfl) rfl ?_
    refine chPu (ev tab rfl) rfl ?_
    refine chPu (indexAddr (l := x.c) tab rfl rfl rfl rfl rfl rfl (Int.natCast_nonneg _) (idx_map hx) rfl) rfl ?_
    first | refine chPu (ev tab rfl) rfl ?_ | refine chPu (loadRow tab rfl rfl rfl rfl) rfl ?_ | refine chPu (loadBox tab rfl rfl rfl rfl rfl) rfl ?_
    refine chPu (ev tab rfl) rfl ?_
    first | refine chPu (ev tab rfl) rfl ?_ | refine chPu (loadRow tab rfl rfl rfl rfl) rfl ?_ | refine chPu (loadBox tab rfl rfl rfl rfl rfl) rfl ?_
    refine chPu (ev tab rfl) rfl ?_
    refine chPu (indexAddr (l := y.c) tab rfl rfl rfl rfl rfl rfl (Int.natCast_nonneg _) (idx_map hy) rfl) rfl ?_
    first | refine chPu (ev tab rfl) rfl ?_ | refine chPu (loadRow tab rfl rfl rfl rfl) rfl ?_ | refine chPu (loadBox tab rfl rfl rfl rfl rfl) rfl ?_
    refine chPu (puCall rfl rfl rfl hxy rfl) rfl ?_
    refine chPu (ev tab rfl) rfl ?_
    refine CH.nil ?_
    refine qs ?_
    refine condK rfl (fun h80 => ?_) (fun h80 => ?_)
    ·
     have hn : eqJ x y = false := by simpa using h80
     have hg : eqJ a b = false := by rw [eq5, ← hI, hn]; simp
     refine W.seq (W.region ?_)
     refine pE rfl ?_
     refine WO.nil (qs (W.ret (qbRet (qsRet (qlRet (qbRet (qsRet ?_)))))))
     refine QF.ret0 trivial rfl ?_
     rw [hg]; rfl
    ·
     have hn : eqJ x y = true := by simpa using h80
     rw [hn, Bool.true_and] at hI
     refine W.skip (qbN (qs (W.region ?_)))
     iterate 3 refine pE rfl ?_
     refine WO.nil ?_
     refine W.endR [0, 1] ⟨k + 1, ?_⟩ ?_ rfl ?_ trivial ?_ trivial rfl
     · exact ⟨hlt, hI⟩
     · dsimp only; omega
     · repeat' first | exact trivial | refine ⟨rfl, ?_⟩ | refine ⟨congrArg some (renL_boxE _ _ _), ?_⟩ | refine ⟨step_nat (by assumption) (by assumption), ?_⟩
     · repeat' first | exact trivial | refine ⟨rfl, ?_⟩ | refine ⟨congrArg some (renL_boxE _ _ _), ?_⟩ | refine ⟨step_nat (by assumption) (by assumption), ?_⟩
   ·
    rw [hd, dropEnd (l := b.kids) (by omega)] at hI
    have hg : eqJ a b = true := by rw [eq5, ← hI]; simp [q.1, q.2.1, q.2.2.1, qk, eqJs]
    refine W.exit (qsExit (qlExit (qbExit (qs (W.seq (W.region ?_))))))
    refine pE rfl ?_
    refine WO.nil (qs (W.ret ?_))
    refine QF.ret0 trivial rfl ?_
    rw [hg]; rfl
theorem eqFunc_fn (fid : Nat) (caps : List A) (hc : Still caps) (l m : List JV) (hp : ∀ x ∈ l, ∀ y : JV, Does Tryd.prog fid (.ag x.c :: .ag y.c :: caps) (.d (.v (.bool (eqJ x y)))) 0) :
  Does Tryd.prog 30 [.d (.sl (l.map JV.c)), .d (.sl (m.map JV.c)), .clo fid caps] (.d (.v (.bool (eqJs l m)))) 0 := by
 refine Does.of_W (n := 32) (ts := [6]) Tryd.func30 (by kernel_rfl) rfl Tryd.ntmps30 Tryd.results30 rfl rfl fun C hC hG => ?_
 refine W.seq (W.region ?_)
 refine pE rfl ?_
 refine WO.nil (qs ?_)
 iterate 2 refine W.seq ?_
 refine W.region ?_
 iterate 5 refine pE rfl ?_
 refine WO.nil (qs ?_)
 refine condK rfl (fun h14 => ?_) (fun h14 => ?_)
 ·
  have hg : eqJs l m = false := by
   cases he : eqJs l m with
   | false => rfl
   | true => rw [(eqJs_iff l m).1 he] at h14; simp at h14
  refine W.seq (W.region ?_)
  refine pE rfl ?_
  refine WO.nil (qs (W.ret (qsRet ?_)))
  refine QF.ret0 trivial rfl ?_
  rw [hg]; rfl
 ·
  have hl : l.length = m.length := by simp at h14; omega
  refine W.skip (qs ?_)
  iterate 2 refine W.seq ?_
  refine W.region ?_
  iterate 3 refine pE rfl ?_
  refine WO.nil (qs (W.block ?_))
  refine W.len (t := 0) rfl rfl (fun hlen => ?_)
  try simp only [List.length_map, Ex.kc_len] at hlen
  refine W.loopR (ι := {x : Nat // match x with | k => k ≤ l.length ∧ eqJs (l.drop k) (m.drop k) = eqJs l m})
   (fun x => match x.1 with | k => [(17, .d (.v (.int .i64 ((k : Nat) : Int))))]) [(1, _), (2, _), (15, _), (16, _)]
   (fun x => match x.1 with | k => []) [] [] 0 (fun x => match x.1 with | k => l.length - k)
   [] ⟨0, ?_⟩ rfl ?_ ⟨rfl, (by first | rfl | exact hc.2), rfl, (by first | rfl | exact hc.2), rfl, (by first | rfl | exact hc.2), rfl, (by first | rfl | exact hc.2), trivial⟩ ?_ trivial rfl ?_
  · exact ⟨Nat.zero_le _, by simp⟩
  · repeat' first | exact trivial | refine ⟨rfl, ?_⟩ | refine ⟨congrArg some (renL_boxE _ _ _), ?_⟩ | refine ⟨step_nat (by assumption) (by assumption), ?_⟩
  · repeat' first | exact trivial | refine ⟨rfl, ?_⟩ | refine ⟨congrArg some (renL_boxE _ _ _), ?_⟩ | refine ⟨step_nat (by assumption) (by assumption), ?_⟩
  rintro ⟨k, hk, hI⟩
  show W _ _ _ _ _ ⟨[(17, .d (.v (.int .i64 ((k : Nat) : Int)))), (1, _), (2, _), (15, _), (16, _)], [], [], 0⟩
  refine W.seq (W.region ?_)
  refine pE rfl ?_
  refine WO.nil (qs (W.seq ?_))
  refine eachR (l := l) (k := k) rfl (by simp [Ex.kc_len, bytes_len]) hk (fun x hx hd hlt => ?_) (fun he hd => ?_)
  ·
   obtain ⟨y, hy, hyd⟩ := exAt (l := m) (k := k) (by omega)
   rw [hd, hyd] at hI
   simp only [eqJs] at hI
   have hxy := hp x (List.mem_of_getElem? hx) y
   refine W.skip (qs (W.seq (W.block (W.seq (W.region ?_)))))
   refine pE rfl ?_
   refine pu (indexAddr (l := x.c) tab rfl rfl rfl rfl rfl rfl (Int.natCast_nonneg _) (idx_map hx) rfl) rfl ?_
   first | refine pE rfl ?_ | refine pR rfl rfl rfl rfl rfl ?_ | refine pB rfl rfl rfl rfl rfl rfl ?_
   refine allocR tab rfl rfl rfl ?_
   refine pE rfl ?_
   refine storeR tab rfl rfl rfl rfl rfl rfl rfl rfl ?_
   refine WO.nil (qs (W.seq (W.region ?_)))
   iterate 2 refine pE rfl ?_
   refine pu (indexAddr (l := y.c) tab rfl rfl rfl rfl rfl rfl (Int.natCast_nonneg _) (idx_map hy) rfl) rfl ?_
   first | refine pE rfl ?_ | refine pR rfl rfl rfl rfl rfl ?_ | refine pB rfl rfl rfl rfl rfl rfl ?_
   refine allocR tab rfl rfl rfl ?_
   refine storeR tab rfl rfl rfl rfl rfl rfl rfl rfl ?_
   refine WO.nil (qs (W.seq (W.region ?_)))
   refine pE rfl ?_
   first | refine pE rfl ?_ | refine pR rfl rfl rfl rfl rfl ?_ | refine pB rfl rfl rfl rfl rfl rfl ?_
   first | refine pE rfl ?_ | refine pR rfl rfl rfl rfl rfl ?_ | refine pB rfl rfl rfl rfl rfl rfl ?_
   refine pu (puCall rfl rfl (by rw [List.map_append, hc.1 _ 3]; rfl) hxy rfl) rfl ?_
   refine pE rfl ?_
   refine WO.nil (qs ?_)
   refine condK rfl (fun h30 => ?_) (fun h30 => ?_)
   ·
    have hn : eqJ x y = false := by simpa using h30
    have hg : eqJs l m = false := by rw [← hI, hn]; rfl
    refine W.seq (W.region ?_)
    refine pE rfl ?_
    refine WO.nil (qs (W.ret (qbRet (qsRet (qlRet (qbRet (qsRet ?_)))))))
    refine QF.ret0 trivial rfl ?_
    rw [hg]; rfl
   ·
    have hn : eqJ x y = true := by simpa using h30
    rw [hn, Bool.true_and] at hI
    refine W.skip (qbN (qs (W.region ?_)))
    iterate 2 refine pE rfl ?_
    refine WO.nil ?_
    refine W.endR [] ⟨k + 1, ?_⟩ ?_ rfl ?_ ⟨rfl, (by first | rfl | exact hc.2), rfl, (by first | rfl | exact hc.2), rfl, (by first | rfl | exact hc.2), rfl, (by first | rfl | exact hc.2), trivial⟩ ?_ trivial rfl
    · exact ⟨hlt, hI⟩
    · dsimp only; omega
    · repeat' first | exact trivial | refine ⟨rfl, ?_⟩ | refine ⟨congrArg some (renL_boxE _ _ _), ?_⟩ | refine ⟨step_nat (by assumption) (by assumption), ?_⟩
    · repeat' first | exact trivial | refine ⟨rfl, ?_⟩ | refine ⟨congrArg some (renL_boxE _ _ _), ?_⟩ | refine ⟨step_nat (by assumption) (by assumption), ?_⟩
  ·
   rw [hd, dropEnd (l := m) (by omega)] at hI
   have hg : eqJs l m = true := hI.symm
   refine W.exit (qsExit (qlExit (qbExit (qs (W.seq (W.region ?_))))))
   refine pE rfl ?_
   refine WO.nil (qs (W.ret ?_))
   refine QF.ret0 trivial rfl ?_
   rw [hg]; rfl
theorem pSame_fn : ∀ (a b : JV), Does Tryd.prog 18 [.ag a.c, .ag b.c] (.d (.v (.bool (eqJ a b)))) 0 := by
 refine JV.ind fun a ih => ?_
 intro b
 have h5 := eq5 a b
 rw [jc_map a, jc_map b]
 refine Does.of_W (n := 38) (ts := [4]) Tryd.func18 (by kernel_rfl) rfl Tryd.ntmps18 Tryd.results18 rfl rfl fun C hC hG => ?_
 refine W.seq (W.region ?_)
 refine boxR rfl rfl rfl ?_
 refine boxR rfl rfl rfl ?_
 refine pE rfl ?_
 refine WO.nil (qs (W.seq ?_))
 apply regionB; (case hb => rfl)
 ·
  refine pE rfl ?_
  first | refine pE rfl ?_ | refine pR rfl rfl rfl rfl rfl ?_ | refine pB rfl rfl rfl rfl rfl rfl ?_
  refine pE rfl ?_
  first | refine pE rfl ?_ | refine pR rfl rfl rfl rfl rfl ?_ | refine pB rfl rfl rfl rfl rfl rfl ?_
  iterate 2 refine pE rfl ?_
  apply splitJ; (case hj => rfl); (case hl => rfl)
  ·
   refine goG rfl rfl ?_
   refine pE rfl ?_
   refine goG rfl rfl ?_
   first | refine pE rfl ?_ | refine pR rfl rfl rfl rfl rfl ?_ | refine pB rfl rfl rfl rfl rfl rfl ?_
   refine goG rfl rfl ?_
   refine pE rfl ?_
   refine goG rfl rfl ?_
   first | refine pE rfl ?_ | refine pR rfl rfl rfl rfl rfl ?_ | refine pB rfl rfl rfl rfl rfl rfl ?_
   refine goG rfl rfl ?_
   iterate 3 refine pE rfl ?_
   apply splitJ; (case hj => rfl); (case hl => rfl)
   ·
    refine goG rfl rfl ?_
    refine pE rfl ?_
    refine goG rfl rfl ?_
    first | refine pE rfl ?_ | refine pR rfl rfl rfl rfl rfl ?_ | refine pB rfl rfl rfl rfl rfl rfl ?_
    refine goG rfl rfl ?_
    refine pE rfl ?_
    refine goG rfl rfl ?_
    first | refine pE rfl ?_ | refine pR rfl rfl rfl rfl rfl ?_ | refine pB rfl rfl rfl rfl rfl rfl ?_
    refine goG rfl rfl ?_
    iterate 3 refine pE rfl ?_
    apply splitJ; (case hj => rfl); (case hl => rfl)
    ·
     refine goG rfl rfl ?_
     refine pE rfl ?_
     refine goG rfl rfl ?_
     first | refine pE rfl ?_ | refine pR rfl rfl rfl rfl rfl ?_ | refine pB rfl rfl rfl rfl rfl rfl ?_
     refine goG rfl rfl ?_
     refine pE rfl ?_
     refine goG rfl rfl ?_
     first | refine pE rfl ?_ | refine pR rfl rfl rfl rfl rfl ?_ | refine pB rfl rfl rfl rfl rfl rfl ?_
     refine goG rfl rfl ?_
     refine pu (puCall rfl rfl rfl (equal_fn a.keys b.keys) rfl) rfl ?_
     iterate 2 refine pE rfl ?_
     apply splitJ; (case hj => rfl); (case hl => rfl)
     ·
      refine goG rfl rfl ?_
      refine pE rfl ?_
      refine goG rfl rfl ?_
      first | refine pE rfl ?_ | refine pR rfl rfl rfl rfl rfl ?_ | refine pB rfl rfl rfl rfl rfl rfl ?_
      refine goG rfl rfl ?_
      refine pE rfl ?_
      refine goG rfl rfl ?_
      first | refine pE rfl ?_ | refine pR rfl rfl rfl rfl rfl ?_ | refine pB rfl rfl rfl rfl rfl rfl ?_
      refine goG rfl rfl ?_
      refine pu (puCall rfl rfl rfl (eqFunc_fn _ [] ⟨fun _ _ => rfl, rfl⟩ a.kids b.kids ih) rfl) rfl ?_
      iterate 2 refine pE rfl ?_
      refine WO.nil ?_
      refine qv1 rfl rfl rfl
     ·
      iterate 5 refine skipT rfl rfl rfl rfl ?_
      iterate 2 refine pE rfl ?_
      refine WO.nil ?_
      refine qv1 rfl rfl rfl
    ·
     iterate 5 refine skipT rfl rfl rfl rfl ?_
     iterate 2 refine pE rfl ?_
     iterate 5 refine skipT rfl rfl rfl rfl ?_
     iterate 2 refine pE rfl ?_
     refine WO.nil ?_
     refine qv1 rfl rfl rfl
   ·
    iterate 5 refine skipT rfl rfl rfl rfl ?_
    iterate 2 refine pE rfl ?_
    iterate 5 refine skipT rfl rfl rfl rfl ?_
    iterate 2 refine pE rfl ?_
    iterate 5 refine skipT rfl rfl rfl rfl ?_
    iterate 2 refine pE rfl ?_
    refine WO.nil ?_
    refine qv1 rfl rfl rfl
  ·
   iterate 5 refine skipT rfl rfl rfl rfl ?_
   iterate 2 refine pE rfl ?_
   iterate 5 refine skipT rfl rfl rfl rfl ?_
   iterate 2 refine pE rfl ?_
   iterate 5 refine skipT rfl rfl rfl rfl ?_
   iterate 2 refine pE rfl ?_
   iterate 5 refine skipT rfl rfl rfl rfl ?_
   iterate 2 refine pE rfl ?_
   refine WO.nil ?_
   refine qv1 rfl rfl rfl
 refine qs (W.ret ?_)
 refine QF.ret0 trivial rfl ?_
 simp only [norm, oneA]; rw [h5]; cases decide (a.op = b.op) <;> cases decide (a.n = b.n) <;> cases decide (a.s = b.s) <;> cases decide (a.keys = b.keys) <;> rfl
end Go.Proofs.YtllkpgnpioojjaaDoor
namespace Go.Proofs.YtllkpgnpioojjaaDoor
open Go.Ab Go.Tb
set_option maxRecDepth 10000
attribute [local irreducible] W WO Pu QS QB QL QF QV QV1 CH QE
theorem esc_le (b : UInt8) : (escB b).length ≤ 2 := by unfold escB; split <;> (try split) <;> (try split) <;> simp
theorem esc_len : ∀ l : List UInt8, (l.flatMap escB).length ≤ 2 * l.length
 | [] => by simp
 | b :: l => by
  have h1 := esc_le b
  have h2 := esc_len l
  simp only [List.flatMap_cons, List.length_append, List.length_cons]; omega
theorem cat_bytes (t : ByteArray) (l : List UInt8) : bys (t ++ bytesOf l) = bys t ++ l := by simp [bys, bytesOf]
theorem escT {b : UInt8} (h : (b.toNat : Int) = 34 ∨ (b.toNat : Int) = 92) (t : ByteArray) : t ++ B #[92] ++ bytesOf [b] = t ++ bytesOf (escB b) := by
 have e : b = 34 ∨ b = 92 := by
  rcases h with h | h
  · exact .inl (UInt8.toNat_inj.1 (by show b.toNat = 34; omega))
  · exact .inr (UInt8.toNat_inj.1 (by show b.toNat = 92; omega))
 refine bys_inj ?_
 unfold escB; rw [if_pos e]
 simp [bys, bytesOf]
theorem escN {b : UInt8} (h : (b.toNat : Int) = 10) (t : ByteArray) : t ++ B #[92, 110] = t ++ bytesOf (escB b) := by
 have e : b = 10 := UInt8.toNat_inj.1 (by show b.toNat = 10; omega)
 subst e; rfl
theorem escH {b : UInt8} (h : (b.toNat : Int) = 9) (t : ByteArray) : t ++ B #[92, 116] = t ++ bytesOf (escB b) := by
 have e : b = 9 := UInt8.toNat_inj.1 (by show b.toNat = 9; omega)
 subst e; rfl
theorem escO {b : UInt8} (h1 : ¬ (b.toNat : Int) = 34) (h2 : ¬ (b.toNat : Int) = 92) (h3 : ¬ (b.toNat : Int) = 10) (h4 : ¬ (b.toNat : Int) = 9) : escB b = [b] := by
 unfold escB
 rw [if_neg (by rintro (rfl | rfl) <;> simp at h1 h2), if_neg (by rintro rfl; simp at h3), if_neg (by rintro rfl; simp at h4)]
end Go.Proofs.YtllkpgnpioojjaaDoor
namespace Go.Proofs.YtllkpgnpioojjaaDoor
open Go.Ab Go.Tb
set_option maxRecDepth 10000
attribute [local irreducible] W WO Pu QS QB QL QF QV QV1 CH QE
theorem one_bb (b : UInt8) : (bytesOf [b]).size = 1 ∧ ∀ x, (bytesOf [b]).data[0]? = some x → (x.toNat : Int) = (b.toNat : Int) := ⟨rfl, by intro x hx; cases hx; rfl⟩
theorem catA (t : ByteArray) (a b : List UInt8) : t ++ bytesOf a ++ bytesOf b = t ++ bytesOf (a ++ b) := by
 refine bys_inj ?_
 show bys _ = bys _
 rw [cat_bytes, cat_bytes, cat_bytes, List.append_assoc]
theorem sz_bytes (t : ByteArray) (a : List UInt8) : (t ++ bytesOf a).size = t.size + a.length := by rw [size_cat]; rfl
theorem bbyte_to {u : Bool} {s m r : ByteArray} {c : Int} (e : s ++ m = r) (hm : m.size = 1) (hm0 : ∀ b, m.data[0]? = some b → (b.toNat : Int) = c) (hb : s.size + 1 ≤ 140737488355328) : DoesB Tryd.prog 40 [.ptr 0 0, .d (.v (.int .u8 c))] [[.np 0 tB u, .bf 1 tU s]] 1 (.d (.v .nilIface)) [[.np 0 tB true, .bf 1 tU r]] 1 := e ▸ bbyte_fn u s c m hm hm0 hb
theorem bwrite_to {u : Bool} {s x r : ByteArray} (e : s ++ x = r) (hb : s.size + x.size ≤ 140737488355328) : DoesB Tryd.prog 37 [.ptr 0 0, .d (.v (.string x))] [[.np 0 tB u, .bf 1 tU s]] 1 (.tup [.d (.v (.int .i64 x.size)), .d (.v .nilIface)]) [[.np 0 tB true, .bf 1 tU r]] 1 := e ▸ bwrite_fn u s x hb
theorem quote_fn (u : Bool) (t s : ByteArray) (hz : t.size + 2 * s.size + 2 ≤ 140737488355328) : DoesB Tryd.prog 39 [.ptr 0 0, .d (.v (.string s))] [[.np 0 tB u, .bf 1 tU t]] 1 (.tup []) [[.np 0 tB true, .bf 1 tU (t ++ bytesOf (quoteL (bys s)))]] 1 := by
 refine DoesB.of_V tab (n := 39) (rs := []) Tryd.func39 (by kernel_rfl) rfl Tryd.ntmps39 Tryd.results39 rfl rfl fun C hC hG => ?_
 refine W.seq (W.region ?_)
 refine pE rfl ?_
 refine callB [0] [1] rfl rfl rfl rfl rfl ((bbyte_fn u t 34 (bytesOf [34]) rfl (one_bb 34).2 (by omega))) rfl rfl (by rfl) (by rfl) rfl rfl rfl rfl ?_
 refine WO.nil (qs ?_)
 iterate 2 refine W.seq ?_
 refine W.region ?_
 iterate 3 refine pE rfl ?_
 refine WO.nil (qs (W.block ?_))
 refine W.inRange (t := 1) rfl (fun hok => ?_)
 have hlen := okc_size hok
 refine W.loopR (ι := {x : Nat × ByteArray // match x with | (k, T) => k ≤ (bys s).length ∧ T = t ++ bytesOf (34 :: ((bys s).take k).flatMap escB)})
  (fun x => match x.1 with | (k, T) => [(0, .ptr 0 0), (10, .d (.v (.int .i64 ((k : Nat) : Int))))]) [(1, _), (9, _)]
  (fun x => match x.1 with | (k, T) => [(0, [.np 0 tB true, .bf 1 tU T])]) [] [1] 2 (fun x => match x.1 with | (k, T) => (bys s).length - k)
  [0, 3] ⟨(0, t ++ bytesOf [34]), ?_⟩ rfl ?_ ⟨rfl, rfl, rfl, rfl, trivial⟩ ?_ trivial rfl ?_
 · exact ⟨Nat.zero_le _, by simp⟩
 · repeat' first | exact trivial | refine ⟨rfl, ?_⟩ | refine ⟨congrArg some (renL_boxE _ _ _), ?_⟩ | refine ⟨step_nat (by assumption) (by assumption), ?_⟩
 · repeat' first | exact trivial | refine ⟨rfl, ?_⟩ | refine ⟨congrArg some (renL_boxE _ _ _), ?_⟩ | refine ⟨step_nat (by assumption) (by assumption), ?_⟩
 rintro ⟨⟨k, T⟩, hk, hI⟩
 show W _ _ _ _ _ ⟨[(0, .ptr 0 0), (10, .d (.v (.int .i64 ((k : Nat) : Int)))), (1, _), (9, _)], [(0, [.np 0 tB true, .bf 1 tU T])], [1], 2⟩
 refine W.seq (W.region ?_)
 refine pE rfl ?_
 refine WO.nil (qs (W.seq ?_))
 refine eachR (l := bys s) (k := k) rfl (by simp [Ex.kc_len, bytes_len]) hk (fun b hx hd hlt => ?_) (fun he hd => ?_)
 ·
  have hTs : T.size ≤ t.size + 1 + 2 * k := by
   rw [hI, sz_bytes]
   have := esc_len ((bys s).take k)
   simp at *; omega
  have hk1 : k + 1 ≤ s.size := by rw [← bytes_len]; omega
  have hN : T ++ bytesOf (escB b) = t ++ bytesOf (34 :: ((bys s).take (k + 1)).flatMap escB) := by rw [hI, catA, List.take_add_one, hx]; simp
  refine W.skip (qs (W.seq (W.block (W.seq (W.region ?_)))))
  iterate 2 refine pE rfl ?_
  refine WO.nil (qs (W.seq (W.region ?_)))
  iterate 2 refine pE rfl ?_
  refine pu (indexStr tab rfl rfl rfl rfl (Int.natCast_nonneg _) (byteList (by assumption))) rfl ?_
  refine pE rfl ?_
  refine WO.nil (qs (W.seq (W.region ?_)))
  refine pE rfl ?_
  refine WO.nil (qs (W.block ?_))
  iterate 2 refine W.seq ?_
  refine W.region ?_
  iterate 2 refine pE rfl ?_
  refine WO.nil (qs ?_)
  refine condK rfl (fun h20 => ?_) (fun h20 => ?_)
  ·
   refine W.skip (qs ?_)
   refine W.condT rfl ?_
   refine W.seq (W.region ?_)
   refine pE rfl ?_
   refine callB [0] [1] rfl rfl rfl rfl rfl ((bbyte_fn true T 92 (bytesOf [92]) rfl (one_bb 92).2 (by omega))) rfl rfl (by rfl) (by rfl) rfl rfl rfl rfl ?_
   refine WO.nil (qs (W.region ?_))
   iterate 2 refine pE rfl ?_
   refine callB [0] [3] rfl rfl rfl rfl rfl ((bbyte_to (c := b.toNat) (s := T ++ bytesOf [92]) (m := bytesOf [b]) (escT (b := b) (by simp_all) T) rfl (one_bb b).2 (by rw [sz_bytes]; simp; omega))) rfl rfl (by rfl) (by rfl) rfl rfl rfl rfl ?_
   refine WO.nil (qbN (qbN (qs (W.region ?_))))
   iterate 2 refine pE rfl ?_
   refine WO.nil ?_
   first | (refine W.endR [0, 3] ⟨(k + 1, T ++ bytesOf (escB b)), ?_⟩ ?_ rfl ?_ ⟨rfl, rfl, rfl, rfl, trivial⟩ ?_ trivial rfl) | (refine W.endR [0, 5] ⟨(k + 1, T ++ bytesOf (escB b)), ?_⟩ ?_ rfl ?_ ⟨rfl, rfl, rfl, rfl, trivial⟩ ?_ trivial rfl)
   · exact ⟨hlt, hN⟩
   · dsimp only; omega
   · repeat' first | exact trivial | refine ⟨rfl, ?_⟩ | refine ⟨congrArg some (renL_boxE _ _ _), ?_⟩ | refine ⟨step_nat (by assumption) (by assumption), ?_⟩
   · repeat' first | exact trivial | refine ⟨rfl, ?_⟩ | refine ⟨congrArg some (renL_boxE _ _ _), ?_⟩ | refine ⟨step_nat (by assumption) (by assumption), ?_⟩
  ·
   refine W.region ?_
   iterate 2 refine pE rfl ?_
   refine WO.nil (qs ?_)
   refine condK rfl (fun h20 => ?_) (fun h20 => ?_)
   ·
    refine W.seq (W.region ?_)
    refine pE rfl ?_
    refine callB [0] [1] rfl rfl rfl rfl rfl ((bbyte_fn true T 92 (bytesOf [92]) rfl (one_bb 92).2 (by omega))) rfl rfl (by rfl) (by rfl) rfl rfl rfl rfl ?_
    refine WO.nil (qs (W.region ?_))
    iterate 2 refine pE rfl ?_
    refine callB [0] [3] rfl rfl rfl rfl rfl ((bbyte_to (c := b.toNat) (s := T ++ bytesOf [92]) (m := bytesOf [b]) (escT (b := b) (by simp_all) T) rfl (one_bb b).2 (by rw [sz_bytes]; simp; omega))) rfl rfl (by rfl) (by rfl) rfl rfl rfl rfl ?_
    refine WO.nil (qbN (qbN (qs (W.region ?_))))
    iterate 2 refine pE rfl ?_
    refine WO.nil ?_
    first | (refine W.endR [0, 3] ⟨(k + 1, T ++ bytesOf (escB b)), ?_⟩ ?_ rfl ?_ ⟨rfl, rfl, rfl, rfl, trivial⟩ ?_ trivial rfl) | (refine W.endR [0, 5] ⟨(k + 1, T ++ bytesOf (escB b)), ?_⟩ ?_ rfl ?_ ⟨rfl, rfl, rfl, rfl, trivial⟩ ?_ trivial rfl)
    · exact ⟨hlt, hN⟩
    · dsimp only; omega
    · repeat' first | exact trivial | refine ⟨rfl, ?_⟩ | refine ⟨congrArg some (renL_boxE _ _ _), ?_⟩ | refine ⟨step_nat (by assumption) (by assumption), ?_⟩
    · repeat' first | exact trivial | refine ⟨rfl, ?_⟩ | refine ⟨congrArg some (renL_boxE _ _ _), ?_⟩ | refine ⟨step_nat (by assumption) (by assumption), ?_⟩
   ·
    refine W.seq (W.region ?_)
    iterate 2 refine pE rfl ?_
    refine WO.nil (qs ?_)
    refine condK rfl (fun h28 => ?_) (fun h28 => ?_)
    ·
     refine W.region ?_
     refine pE rfl ?_
     refine callB [0] [1] rfl rfl rfl rfl rfl ((bwrite_to (s := T) (x := bytesOf [92, 110]) (escN (b := b) (by simp_all) T) (by rw [show (bytesOf [92, 110]).size = 2 from rfl]; omega))) rfl rfl (by rfl) (by rfl) rfl rfl rfl rfl ?_
     refine WO.nil (qbN (qbN (qs (W.region ?_))))
     iterate 2 refine pE rfl ?_
     refine WO.nil ?_
     first | (refine W.endR [0, 3] ⟨(k + 1, T ++ bytesOf (escB b)), ?_⟩ ?_ rfl ?_ ⟨rfl, rfl, rfl, rfl, trivial⟩ ?_ trivial rfl) | (refine W.endR [0, 5] ⟨(k + 1, T ++ bytesOf (escB b)), ?_⟩ ?_ rfl ?_ ⟨rfl, rfl, rfl, rfl, trivial⟩ ?_ trivial rfl)
     · exact ⟨hlt, hN⟩
     · dsimp only; omega
     · repeat' first | exact trivial | refine ⟨rfl, ?_⟩ | refine ⟨congrArg some (renL_boxE _ _ _), ?_⟩ | refine ⟨step_nat (by assumption) (by assumption), ?_⟩
     · repeat' first | exact trivial | refine ⟨rfl, ?_⟩ | refine ⟨congrArg some (renL_boxE _ _ _), ?_⟩ | refine ⟨step_nat (by assumption) (by assumption), ?_⟩
    ·
     refine W.seq (W.region ?_)
     iterate 2 refine pE rfl ?_
     refine WO.nil (qs ?_)
     refine condK rfl (fun h32 => ?_) (fun h32 => ?_)
     ·
      refine W.region ?_
      refine pE rfl ?_
      refine callB [0] [1] rfl rfl rfl rfl rfl ((bwrite_to (s := T) (x := bytesOf [92, 116]) (escH (b := b) (by simp_all) T) (by rw [show (bytesOf [92, 116]).size = 2 from rfl]; omega))) rfl rfl (by rfl) (by rfl) rfl rfl rfl rfl ?_
      refine WO.nil (qbN (qbN (qs (W.region ?_))))
      iterate 2 refine pE rfl ?_
      refine WO.nil ?_
      first | (refine W.endR [0, 3] ⟨(k + 1, T ++ bytesOf (escB b)), ?_⟩ ?_ rfl ?_ ⟨rfl, rfl, rfl, rfl, trivial⟩ ?_ trivial rfl) | (refine W.endR [0, 5] ⟨(k + 1, T ++ bytesOf (escB b)), ?_⟩ ?_ rfl ?_ ⟨rfl, rfl, rfl, rfl, trivial⟩ ?_ trivial rfl)
      · exact ⟨hlt, hN⟩
      · dsimp only; omega
      · repeat' first | exact trivial | refine ⟨rfl, ?_⟩ | refine ⟨congrArg some (renL_boxE _ _ _), ?_⟩ | refine ⟨step_nat (by assumption) (by assumption), ?_⟩
      · repeat' first | exact trivial | refine ⟨rfl, ?_⟩ | refine ⟨congrArg some (renL_boxE _ _ _), ?_⟩ | refine ⟨step_nat (by assumption) (by assumption), ?_⟩
     ·
      refine W.region ?_
      iterate 2 refine pE rfl ?_
      refine callB [0] [1] rfl rfl rfl rfl rfl ((bbyte_to (c := b.toNat) (s := T) (m := bytesOf [b]) (congrArg (fun l => T ++ bytesOf l) (escO (b := b) (by simp_all) (by simp_all) (by simp_all) (by simp_all)).symm) rfl (one_bb b).2 (by omega))) rfl rfl (by rfl) (by rfl) rfl rfl rfl rfl ?_
      refine WO.nil (qbN (qbN (qs (W.region ?_))))
      iterate 2 refine pE rfl ?_
      refine WO.nil ?_
      first | (refine W.endR [0, 3] ⟨(k + 1, T ++ bytesOf (escB b)), ?_⟩ ?_ rfl ?_ ⟨rfl, rfl, rfl, rfl, trivial⟩ ?_ trivial rfl) | (refine W.endR [0, 5] ⟨(k + 1, T ++ bytesOf (escB b)), ?_⟩ ?_ rfl ?_ ⟨rfl, rfl, rfl, rfl, trivial⟩ ?_ trivial rfl)
      · exact ⟨hlt, hN⟩
      · dsimp only; omega
      · repeat' first | exact trivial | refine ⟨rfl, ?_⟩ | refine ⟨congrArg some (renL_boxE _ _ _), ?_⟩ | refine ⟨step_nat (by assumption) (by assumption), ?_⟩
      · repeat' first | exact trivial | refine ⟨rfl, ?_⟩ | refine ⟨congrArg some (renL_boxE _ _ _), ?_⟩ | refine ⟨step_nat (by assumption) (by assumption), ?_⟩
 ·
  have e : k = (bys s).length := by have := congrArg List.length hd; simp at this; omega
  have hTs : T.size ≤ t.size + 1 + 2 * k := by
   rw [hI, sz_bytes]
   have := esc_len ((bys s).take k)
   simp at *; omega
  have hk1 : k = s.size := by rw [← bytes_len]; omega
  have hfin : T ++ bytesOf [34] = t ++ bytesOf (quoteL (bys s)) := by rw [hI, catA, e, List.take_length]; rfl
  refine W.exit (qsExit (qlExit (qbExit (qs (W.region ?_)))))
  refine pE rfl ?_
  refine callB [0] [1] rfl rfl rfl rfl rfl ((bbyte_to (c := 34) (s := T) (m := bytesOf [34]) hfin rfl (one_bb 34).2 (by omega))) rfl rfl (by rfl) (by rfl) rfl rfl rfl rfl ?_
  refine WO.nil ?_
  refine QB1.end tab [3] trivial rfl rfl rfl rfl ?_ ?_
  · exact ⟨rfl, trivial⟩
  rfl
end Go.Proofs.YtllkpgnpioojjaaDoor
namespace Go.Proofs.YtllkpgnpioojjaaDoor
open Go.Ab Go.Tb
set_option maxRecDepth 10000
attribute [local irreducible] W WO Pu QS QB QL QF QV QV1 CH QE
theorem esc_ge : ∀ l : List UInt8, l.length ≤ (l.flatMap escB).length
 | [] => by simp
 | b :: l => by
  have h1 : 1 ≤ (escB b).length := by unfold escB; split <;> (try split) <;> (try split) <;> simp
  have h2 := esc_ge l
  simp only [List.flatMap_cons, List.length_append, List.length_cons]; omega
theorem quote_ge (s : ByteArray) : s.size + 2 ≤ (quoteL (bys s)).length := by
 have h := esc_ge (bys s)
 rw [bytes_len] at h
 simp only [quoteL, List.length_cons, List.length_append, List.length_nil]; omega
theorem items_snoc : ∀ (l : List JV) (z : JV) (first : Bool), itemsJ (l ++ [z]) first = itemsJ l first ++ (if first && l.isEmpty then [] else [44]) ++ printJ z
 | [], z, first => by cases first <;> simp [itemsJ]
 | a :: l, z, first => by
  rw [List.cons_append, itemsJ, itemsJ, items_snoc l z false]
  simp
theorem members_snoc : ∀ (ks : List ByteArray) (l : List JV) (s : ByteArray) (z : JV) (first : Bool), ks.length = l.length → membersJ (ks ++ [s]) (l ++ [z]) first = membersJ ks l first ++ (if first && l.isEmpty then [] else [44]) ++ quoteL (bys s) ++ [58] ++ printJ z
 | [], [], s, z, first, _ => by cases first <;> simp [membersJ]
 | a :: ks, b :: l, s, z, first, h => by
  rw [List.cons_append, List.cons_append, membersJ, membersJ, members_snoc ks l s z false (by simpa using h)]
  simp
 | [], _ :: _, _, _, _, h => by simp at h
 | _ :: _, [], _, _, _, h => by simp at h
def listJ (j : JV) (k : Nat) : List UInt8 := if j.op = 6 then membersJ (j.keys.take k) (j.kids.take k) true else itemsJ (j.kids.take k) true
def openJ (j : JV) : UInt8 := if j.op = 6 then 123 else 91
def closeJ (j : JV) : UInt8 := if j.op = 6 then 125 else 93
def sepJ (k : Nat) : List UInt8 := if k = 0 then [] else [44]
def keyJ (j : JV) (k : Nat) : List UInt8 := if j.op = 6 then quoteL (bys (j.keys.getD k (B #[]))) ++ [58] else []
theorem list_zero (j : JV) : listJ j 0 = [] := by unfold listJ; split <;> simp [membersJ, itemsJ]
theorem take_emp {l : List JV} {k : Nat} (h : k < l.length) : (l.take k).isEmpty = decide (k = 0) := by
 rw [Bool.eq_iff_iff]
 simp only [List.isEmpty_iff, decide_eq_true_eq, List.take_eq_nil_iff]
 constructor
 ·
  rintro (h1 | h1)
  · exact h1
  · rw [h1] at h; simp at h
 · exact fun h1 => .inl h1
theorem list_step {j : JV} {k : Nat} {z : JV} (hz : j.kids[k]? = some z) (hl : j.op = 6 → j.keys.length = j.kids.length) : listJ j (k + 1) = listJ j k ++ sepJ k ++ keyJ j k ++ printJ z := by
 have hk : k < j.kids.length := (List.getElem?_eq_some_iff.1 hz).1
 have hs : (if (true && (j.kids.take k).isEmpty) = true then [] else [44]) = sepJ k := by
  rw [take_emp hk]; unfold sepJ; by_cases q : k = 0 <;> simp [q]
 unfold listJ keyJ
 by_cases ho : j.op = 6
 ·
  have hl := hl ho
  have hkk : j.keys[k]? = some (j.keys.getD k (B #[])) := by rw [List.getD_eq_getElem?_getD, List.getElem?_eq_getElem (by omega)]; rfl
  simp only [if_pos ho]
  rw [List.take_add_one, hkk, List.take_add_one, hz]
  show membersJ (_ ++ [_]) (_ ++ [_]) true = _
  rw [members_snoc _ _ _ _ _ (by simp; omega), hs]
  simp only [List.append_assoc]
 ·
  simp only [if_neg ho]
  rw [List.take_add_one, hz]
  show itemsJ (_ ++ [_]) true = _
  rw [items_snoc, hs]
  simp only [List.append_assoc, List.nil_append]
theorem print_obj : ∀ {j : JV}, j.op = 6 → printJ j = 123 :: (membersJ j.keys j.kids true ++ [125])
 | .mk op n s keys kids, h => by
  have h : op = 6 := h
  subst h
  rw [printJ]
  rfl
theorem print_arr : ∀ {j : JV}, j.op ≠ 1 → j.op ≠ 2 → j.op ≠ 3 → j.op ≠ 4 → j.op ≠ 6 → printJ j = 91 :: (itemsJ j.kids true ++ [93])
 | .mk op n s keys kids, h1, h2, h3, h4, h6 => by rw [printJ, if_neg (show ¬ op = 1 from h1), if_neg (show ¬ op = 2 from h2), if_neg (show ¬ op = 3 from h3), if_neg (show ¬ op = 4 from h4), if_neg (show ¬ op = 6 from h6)]; rfl
theorem print_list {j : JV} (h1 : j.op ≠ 1) (h2 : j.op ≠ 2) (h3 : j.op ≠ 3) (h4 : j.op ≠ 4) (hl : j.op = 6 → j.keys.length = j.kids.length) : printJ j = openJ j :: (listJ j j.kids.length ++ [closeJ j]) := by
 unfold openJ listJ closeJ
 by_cases ho : j.op = 6
 · rw [print_obj ho, if_pos ho, if_pos ho, if_pos ho, List.take_length, ← hl ho, List.take_length]
 · rw [print_arr h1 h2 h3 h4 ho, if_neg ho, if_neg ho, if_neg ho, List.take_length]
theorem list_mono {j : JV} (hl : j.op = 6 → j.keys.length = j.kids.length) : ∀ (d k : Nat), k + d = j.kids.length → (listJ j k).length ≤ (listJ j j.kids.length).length
 | 0, k, h => by rw [← h]; simp
 | d + 1, k, h => by
  have hk : k < j.kids.length := by omega
  have h1 := list_step (j := j) (k := k) (z := j.kids[k]) (by simp [hk]) hl
  have h2 := list_mono hl d (k + 1) (by omega)
  rw [h1] at h2
  simp only [List.length_append] at h2; omega
end Go.Proofs.YtllkpgnpioojjaaDoor
namespace Go.Proofs.YtllkpgnpioojjaaDoor
open Go.Ab Go.Tb
set_option maxRecDepth 10000
attribute [local irreducible] W WO Pu QS QB QL QF QV QV1 CH QE
theorem okN {j : JV} {lv : Int} (h : checkJ j lv = 0) : (1 ≤ j.op ∧ j.op ≤ 6) ∧ (j.op = 2 → j.n = 0 ∨ j.n = 1) ∧ (j.op = 3 → inR j.n = true) ∧ (j.op = 6 → j.keys.length = j.kids.length) ∧ (∀ z ∈ j.kids, checkJ z (lv + 1) = 0) := by
 rw [checkJ_eq] at h
 have h0 : nodeJ j lv = 0 := by
  by_cases q : nodeJ j lv = 0
  · exact q
  · rw [if_pos q] at h; exact h
 rw [if_neg (by simp [h0])] at h
 obtain ⟨hf, hn, _⟩ := nodeJ_fields h0
 have hks : ∀ l : List JV, checkJs l (lv + 1) = 0 → ∀ z ∈ l, checkJ z (lv + 1) = 0 := by
  intro l
  induction l with
  | nil => intro _ z hz; cases hz
  | cons a l ih =>
   intro hc z hz
   obtain ⟨h1, h2⟩ := checkJs_cons hc
   rcases List.mem_cons.1 hz with rfl | hz
   · exact h1
   · exact ih h2 z hz
 refine ⟨?_, ?_, ?_, ?_, hks _ h⟩
 ·
  unfold fieldsJ at hf
  by_cases e1 : j.op = 1
  · omega
  ·
   rw [if_neg e1] at hf
   by_cases e2 : j.op = 2 ∨ j.op = 3
   · omega
   ·
    rw [if_neg e2] at hf
    by_cases e4 : j.op = 4
    · omega
    ·
     rw [if_neg e4] at hf
     by_cases e5 : j.op = 5
     · omega
     ·
      rw [if_neg e5] at hf
      by_cases e6 : j.op = 6
      · omega
      · rw [if_neg e6] at hf; cases hf
 ·
  intro e
  by_cases q0 : j.n = 0
  · exact .inl q0
  ·
   by_cases q1 : j.n = 1
   · exact .inr q1
   · exact absurd (.inl ⟨e, q0, q1⟩) hn
 ·
  intro e
  cases hi : inR j.n with
  | true => rfl
  | false => exact absurd (.inr ⟨e, hi⟩) hn
 ·
  intro e
  unfold fieldsJ at hf
  rw [if_neg (by omega), if_neg (by omega), if_neg (by omega), if_neg (by omega), if_pos e] at hf
  simp only [Bool.and_eq_true, decide_eq_true_eq] at hf
  exact hf.2.2
theorem print1 : ∀ {j : JV}, j.op = 1 → printJ j = nullL
 | .mk op n s keys kids, h => by have h : op = 1 := h; subst h; rw [printJ]; rfl
theorem print2 : ∀ {j : JV}, j.op = 2 → printJ j = if j.n = 1 then trueL else falseL
 | .mk op n s keys kids, h => by have h : op = 2 := h; subst h; rw [printJ]; rfl
theorem print3 : ∀ {j : JV}, j.op = 3 → printJ j = bys (numB j.n)
 | .mk op n s keys kids, h => by have h : op = 3 := h; subst h; rw [printJ]; rfl
theorem print4 : ∀ {j : JV}, j.op = 4 → printJ j = quoteL (bys j.s)
 | .mk op n s keys kids, h => by have h : op = 4 := h; subst h; rw [printJ]; rfl
theorem i64_of {n : Int} (h : inR n = true) : -9223372036854775808 ≤ n ∧ n ≤ 9223372036854775807 := by unfold inR at h; simp only [Bool.and_eq_true, decide_eq_true_eq] at h; omega
theorem key_at {j : JV} {k : Nat} (ho : j.op = 6) (hl : j.keys.length = j.kids.length) (hk : k < j.kids.length) : ∃ s, j.keys[k]? = some s ∧ keyJ j k = quoteL (bys s) ++ [58] := by
 refine ⟨j.keys[k], by rw [List.getElem?_eq_getElem], ?_⟩
 unfold keyJ
 rw [if_pos ho, List.getD_eq_getElem?_getD, List.getElem?_eq_getElem (by omega)]
 rfl
theorem list_part {j : JV} {k : Nat} {z : JV} (hz : j.kids[k]? = some z) (hl : j.op = 6 → j.keys.length = j.kids.length) : (listJ j k).length + (sepJ k).length + (keyJ j k).length + (printJ z).length ≤ (listJ j j.kids.length).length := by
 have hk : k < j.kids.length := (List.getElem?_eq_some_iff.1 hz).1
 have h := list_mono hl (j.kids.length - (k + 1)) (k + 1) (by omega)
 rw [list_step hz hl] at h
 simp only [List.length_append] at h
 omega
end Go.Proofs.YtllkpgnpioojjaaDoor
namespace Go.Proofs.YtllkpgnpioojjaaDoor
open Go.Ab Go.Tb
set_option maxRecDepth 10000
attribute [local irreducible] W WO Pu QS QB QL QF QV QV1 CH QE
theorem quote_to {u : Bool} {t s r : ByteArray} (e : t ++ bytesOf (quoteL (bys s)) = r) (hz : t.size + 2 * s.size + 2 ≤ 140737488355328) : DoesB Tryd.prog 39 [.ptr 0 0, .d (.v (.string s))] [[.np 0 tB u, .bf 1 tU t]] 1 (.tup []) [[.np 0 tB true, .bf 1 tU r]] 1 := e ▸ quote_fn u t s hz
theorem sz_of (l : List UInt8) : (bytesOf l).size = l.length := rfl
theorem text2 {n : Int} (h : n = 0 ∨ n = 1) : ([[cs (B #[102, 97, 108, 115, 101])], [cs (B #[116, 114, 117, 101])]] : List (List D))[n.toNat]? = some [cs (bytesOf (if n = 1 then trueL else falseL))] := by
 rcases h with rfl | rfl <;> rfl
theorem wprint_obj (j : JV) (u : Bool) (t : ByteArray) (ih : ∀ z ∈ j.kids, ∀ (u : Bool) (t r : ByteArray), t ++ bytesOf (printJ z) = r → t.size + 2 * (printJ z).length + 2 ≤ 140737488355328 → DoesB Tryd.prog 23 [.ptr 0 0, .ag z.c] [[.np 0 tB u, .bf 1 tU t]] 1 (.tup []) [[.np 0 tB true, .bf 1 tU r]] 1) (hop : 1 ≤ j.op ∧ j.op ≤ 6) (htwo : j.op = 2 → j.n = 0 ∨ j.n = 1) (hnum : j.op = 3 → inR j.n = true) (hlen6 : j.op = 6 → j.keys.length = j.kids.length) (hz : t.size + 2 * (printJ j).length + 2 ≤ 140737488355328) (ho : j.op = 6) :
  DoesB Tryd.prog 23 [.ptr 0 0, .ag j.c] [[.np 0 tB u, .bf 1 tU t]] 1 (.tup []) [[.np 0 tB true, .bf 1 tU (t ++ bytesOf (printJ j))]] 1 := by
 have hO : openJ j = 123 := if_pos ho
 have hC' : closeJ j = 125 := if_pos ho
 rw [jc_map j]
 refine DoesB.of_V tab (n := 74) (rs := []) Tryd.func23 (by kernel_rfl) rfl Tryd.ntmps23 Tryd.results23 rfl rfl fun C hC hG => ?_
 refine W.seq (W.region ?_)
 refine boxR rfl rfl rfl ?_
 refine WO.nil (qs (W.seq (W.region ?_)))
 refine pE rfl ?_
 first | refine pE rfl ?_ | refine pR rfl rfl rfl rfl rfl ?_ | refine pB rfl rfl rfl rfl rfl rfl ?_
 refine WO.nil (qs (W.block (W.seq (W.region ?_))))
 iterate 2 refine pE rfl ?_
 refine WO.nil (qs ?_)
 refine condK rfl (fun h48 => ?_) (fun h48 => ?_)
 ·
  exfalso; simp at h48; omega
 ·
  refine W.seq (W.region ?_)
  iterate 2 refine pE rfl ?_
  refine WO.nil (qs ?_)
  refine condK rfl (fun h52 => ?_) (fun h52 => ?_)
  ·
   exfalso; simp at h52; omega
  ·
   refine W.seq (W.region ?_)
   iterate 2 refine pE rfl ?_
   refine WO.nil (qs ?_)
   refine condK rfl (fun h61 => ?_) (fun h61 => ?_)
   ·
    exfalso; simp at h61; omega
   ·
    refine W.seq (W.region ?_)
    iterate 2 refine pE rfl ?_
    refine WO.nil (qs ?_)
    refine condK rfl (fun h68 => ?_) (fun h68 => ?_)
    ·
     exfalso; simp at h68; omega
    ·
     have hg := print_list (j := j) (by omega) (by omega) (by omega) (by omega) hlen6
     refine W.seq (W.region ?_)
     refine pE rfl ?_
     refine WO.nil (qs ?_)
     iterate 2 refine W.seq ?_
     refine W.region ?_
     refine pE rfl ?_
     first | refine pE rfl ?_ | refine pR rfl rfl rfl rfl rfl ?_ | refine pB rfl rfl rfl rfl rfl rfl ?_
     refine pE rfl ?_
     refine WO.nil (qs ?_)
     refine condK rfl (fun h11 => ?_) (fun h11 => ?_)
     ·
      refine W.region ?_
      refine pE rfl ?_
      refine WO.nil (qs (W.seq (W.region ?_)))
      iterate 2 refine pE rfl ?_
      refine pu (indexStr (b := 123) tab rfl rfl rfl rfl (by decide) rfl) rfl ?_
      refine callB [0] [1] rfl rfl rfl rfl rfl ((bbyte_to (c := 123) (s := t) (m := B #[123]) (r := t ++ bytesOf [123]) rfl rfl (one_bb 123).2 (by omega))) rfl rfl (by rfl) (by rfl) rfl rfl rfl rfl ?_
      refine WO.nil (qs ?_)
      iterate 2 refine W.seq ?_
      refine W.region ?_
      refine pE rfl ?_
      first | refine pE rfl ?_ | refine pR rfl rfl rfl rfl rfl ?_ | refine pB rfl rfl rfl rfl rfl rfl ?_
      iterate 2 refine pE rfl ?_
      refine WO.nil (qs (W.block ?_))
      refine W.len (t := 17) rfl rfl (fun hlen => ?_)
      try simp only [List.length_map, Ex.kc_len] at hlen
      refine W.loopR (ι := {x : Nat × ByteArray // match x with | (k, T) => k ≤ j.kids.length ∧ T = t ++ bytesOf (openJ j :: listJ j k)})
       (fun x => match x.1 with | (k, T) => [(0, .ptr 0 0), (3, .ptr 2 0), (19, .d (.v (.int .i64 ((k : Nat) : Int))))]) [(4, _), (17, _), (18, _)]
       (fun x => match x.1 with | (k, T) => [(0, [.np 0 tB true, .bf 1 tU T]), (2, [.d (ci j.op), .d (ci j.n), .d (cs j.s), .d (.sl (j.keys.map sc)), .d (.sl (j.kids.map JV.c))])]) [] [1] 3 (fun x => match x.1 with | (k, T) => j.kids.length - k)
       [0, 4, 2] ⟨(0, t ++ bytesOf [123]), ?_⟩ rfl ?_ ⟨rfl, rfl, rfl, rfl, rfl, rfl, trivial⟩ ?_ trivial rfl ?_
      · exact ⟨Nat.zero_le _, by rw [list_zero, hO]⟩
      · repeat' first | exact trivial | refine ⟨rfl, ?_⟩ | refine ⟨congrArg some (renL_boxE _ _ _), ?_⟩ | refine ⟨step_nat (by assumption) (by assumption), ?_⟩
      · repeat' first | exact trivial | refine ⟨rfl, ?_⟩ | refine ⟨congrArg some (renL_boxE _ _ _), ?_⟩ | refine ⟨step_nat (by assumption) (by assumption), ?_⟩
      rintro ⟨⟨k, T⟩, hk, hI⟩
      show W _ _ _ _ _ ⟨[(0, .ptr 0 0), (3, .ptr 2 0), (19, .d (.v (.int .i64 ((k : Nat) : Int)))), (4, _), (17, _), (18, _)], [(0, [.np 0 tB true, .bf 1 tU T]), (2, [.d (ci j.op), .d (ci j.n), .d (cs j.s), .d (.sl (j.keys.map sc)), .d (.sl (j.kids.map JV.c))])], [1], 3⟩
      refine W.seq (W.region ?_)
      refine pE rfl ?_
      refine WO.nil (qs (W.seq ?_))
      refine eachR (l := j.kids) (k := k) rfl (by simp [Ex.kc_len, bytes_len]) hk (fun z hx hd hlt => ?_) (fun he hd => ?_)
      ·
       have hp := list_part hx hlen6
       have hst := list_step hx hlen6
       have hkl : k < j.kids.length := hlt
       rw [hg] at hz
       simp only [List.length_cons, List.length_append, List.length_nil] at hz
       have hTs : T.size = t.size + (listJ j k).length + 1 := by rw [hI, sz_bytes]; rfl
       have hxc : ∀ {u : Bool} {t r : ByteArray}, t ++ bytesOf (printJ z) = r → t.size + 2 * (printJ z).length + 2 ≤ 140737488355328 → DoesB Tryd.prog 23 [.ptr 0 0, .ag z.c] [[.np 0 tB u, .bf 1 tU t]] 1 (.tup []) [[.np 0 tB true, .bf 1 tU r]] 1 := fun {u t r} => ih z (List.mem_of_getElem? hx) u t r
       have hN : T ++ bytesOf (sepJ k) ++ bytesOf (keyJ j k) ++ bytesOf (printJ z) = t ++ bytesOf (openJ j :: listJ j (k + 1)) := by
        rw [hI, catA, catA, catA, hst]; simp only [List.append_assoc, List.cons_append]
       have hsepl : (sepJ k).length ≤ 1 := by unfold sepJ; split <;> simp
       obtain ⟨s, hks, hkq⟩ := key_at ho (hlen6 ho) hkl
       have hkl2 : (keyJ j k).length = (quoteL (bys s)).length + 1 := by rw [hkq]; simp
       have hsz := quote_ge s
       have hs0 : (T ++ bytesOf (sepJ k)).size ≤ T.size + 1 := by rw [sz_bytes]; omega
       refine W.skip (qs (W.seq (W.block (W.seq (W.region ?_)))))
       refine pE rfl ?_
       refine pu (indexAddr (l := z.c) tab rfl rfl rfl rfl rfl rfl (Int.natCast_nonneg _) (idx_map hx) rfl) rfl ?_
       first | refine pE rfl ?_ | refine pR rfl rfl rfl rfl rfl ?_ | refine pB rfl rfl rfl rfl rfl rfl ?_
       refine allocR tab rfl rfl rfl ?_
       refine pE rfl ?_
       refine storeR tab rfl rfl rfl rfl rfl rfl rfl rfl ?_
       refine WO.nil (qs ?_)
       iterate 2 refine W.seq ?_
       refine W.region ?_
       iterate 2 refine pE rfl ?_
       refine WO.nil (qs ?_)
       refine condK rfl (fun h25 => ?_) (fun h25 => ?_)
       ·
        have hs4 : bytesOf (sepJ k) = B #[44] := by unfold sepJ; rw [if_neg (by simp at h25; omega)]; rfl
        refine W.region ?_
        refine pE rfl ?_
        refine callB [0] [1] rfl rfl rfl rfl rfl ((bbyte_to (c := 44) (s := T) (m := B #[44]) (r := T ++ bytesOf (sepJ k)) (by rw [hs4]) rfl (one_bb 44).2 (by omega))) rfl rfl (by rfl) (by rfl) rfl rfl rfl rfl ?_
        refine WO.nil (qs ?_)
        iterate 2 refine W.seq ?_
        refine W.region ?_
        refine pE rfl ?_
        first | refine pE rfl ?_ | refine pR rfl rfl rfl rfl rfl ?_ | refine pB rfl rfl rfl rfl rfl rfl ?_
        refine pE rfl ?_
        refine WO.nil (qs ?_)
        refine condK rfl (fun h30 => ?_) (fun h30 => ?_)
        ·
         refine W.seq (W.region ?_)
         iterate 2 refine pE rfl ?_
         first | refine pE rfl ?_ | refine pR rfl rfl rfl rfl rfl ?_ | refine pB rfl rfl rfl rfl rfl rfl ?_
         refine pE rfl ?_
         refine pu (indexAddr (l := sc s) tab rfl rfl rfl rfl rfl rfl (Int.natCast_nonneg _) (idx_map hks) rfl) rfl ?_
         first | refine pE rfl ?_ | refine pR rfl rfl rfl rfl rfl ?_ | refine pB rfl rfl rfl rfl rfl rfl ?_
         first | refine callB [0] [5] rfl rfl rfl rfl rfl (quote_to (s := s) (r := T ++ bytesOf (sepJ k) ++ bytesOf (quoteL (bys s))) (by first | rfl | rw [hs]) (by omega)) rfl rfl (by rfl) (by rfl) rfl rfl rfl rfl ?_ | refine callB [0] [1] rfl rfl rfl rfl rfl (quote_to (s := s) (r := T ++ bytesOf (sepJ k) ++ bytesOf (quoteL (bys s))) (by first | rfl | rw [hs]) (by omega)) rfl rfl (by rfl) (by rfl) rfl rfl rfl rfl ?_
         refine WO.nil (qs (W.region ?_))
         refine pE rfl ?_
         first | refine callB [0] [7] rfl rfl rfl rfl rfl (bbyte_to (c := 58) (s := T ++ bytesOf (sepJ k) ++ bytesOf (quoteL (bys s))) (m := B #[58]) (r := T ++ bytesOf (sepJ k) ++ bytesOf (keyJ j k)) (by rw [hkq, ← catA]; rfl) rfl (one_bb 58).2 (by rw [sz_bytes]; omega)) rfl rfl (by rfl) (by rfl) rfl rfl rfl rfl ?_ | refine callB [0] [5] rfl rfl rfl rfl rfl (bbyte_to (c := 58) (s := T ++ bytesOf (sepJ k) ++ bytesOf (quoteL (bys s))) (m := B #[58]) (r := T ++ bytesOf (sepJ k) ++ bytesOf (keyJ j k)) (by rw [hkq, ← catA]; rfl) rfl (one_bb 58).2 (by rw [sz_bytes]; omega)) rfl rfl (by rfl) (by rfl) rfl rfl rfl rfl ?_
         refine WO.nil (qs (W.region ?_))
         refine pE rfl ?_
         first | refine pE rfl ?_ | refine pR rfl rfl rfl rfl rfl ?_ | refine pB rfl rfl rfl rfl rfl rfl ?_
         first | refine callB [0] [9] rfl rfl rfl rfl rfl (hxc (t := T ++ bytesOf (sepJ k) ++ bytesOf (keyJ j k)) (r := T ++ bytesOf (sepJ k) ++ bytesOf (keyJ j k) ++ bytesOf (printJ z)) rfl (by rw [sz_bytes]; omega)) rfl rfl (by rfl) (by rfl) rfl rfl rfl rfl ?_ | refine callB [0] [7] rfl rfl rfl rfl rfl (hxc (t := T ++ bytesOf (sepJ k) ++ bytesOf (keyJ j k)) (r := T ++ bytesOf (sepJ k) ++ bytesOf (keyJ j k) ++ bytesOf (printJ z)) rfl (by rw [sz_bytes]; omega)) rfl rfl (by rfl) (by rfl) rfl rfl rfl rfl ?_
         refine WO.nil (qbN (qs (W.region ?_)))
         iterate 2 refine pE rfl ?_
         refine WO.nil ?_
         first | (refine W.endR [0, 9, 2] ⟨(k + 1, T ++ bytesOf (sepJ k) ++ bytesOf (keyJ j k) ++ bytesOf (printJ z)), ?_⟩ ?_ rfl ?_ ⟨rfl, rfl, rfl, rfl, rfl, rfl, trivial⟩ ?_ trivial rfl) | (refine W.endR [0, 11, 2] ⟨(k + 1, T ++ bytesOf (sepJ k) ++ bytesOf (keyJ j k) ++ bytesOf (printJ z)), ?_⟩ ?_ rfl ?_ ⟨rfl, rfl, rfl, rfl, rfl, rfl, trivial⟩ ?_ trivial rfl)
         · exact ⟨hlt, hN⟩
         · dsimp only; omega
         · repeat' first | exact trivial | refine ⟨rfl, ?_⟩ | refine ⟨congrArg some (renL_boxE _ _ _), ?_⟩ | refine ⟨step_nat (by assumption) (by assumption), ?_⟩
         · repeat' first | exact trivial | refine ⟨rfl, ?_⟩ | refine ⟨congrArg some (renL_boxE _ _ _), ?_⟩ | refine ⟨step_nat (by assumption) (by assumption), ?_⟩
        ·
         exfalso; simp at h30; omega
       ·
        have hs : T ++ bytesOf (sepJ k) = T := by
         unfold sepJ; rw [if_pos (by simp at h25; omega)]
         exact bys_inj (by show bys _ = bys _; rw [cat_bytes]; simp)
        refine W.skip (qs ?_)
        iterate 2 refine W.seq ?_
        refine W.region ?_
        refine pE rfl ?_
        first | refine pE rfl ?_ | refine pR rfl rfl rfl rfl rfl ?_ | refine pB rfl rfl rfl rfl rfl rfl ?_
        refine pE rfl ?_
        refine WO.nil (qs ?_)
        refine condK rfl (fun h30 => ?_) (fun h30 => ?_)
        ·
         refine W.seq (W.region ?_)
         iterate 2 refine pE rfl ?_
         first | refine pE rfl ?_ | refine pR rfl rfl rfl rfl rfl ?_ | refine pB rfl rfl rfl rfl rfl rfl ?_
         refine pE rfl ?_
         refine pu (indexAddr (l := sc s) tab rfl rfl rfl rfl rfl rfl (Int.natCast_nonneg _) (idx_map hks) rfl) rfl ?_
         first | refine pE rfl ?_ | refine pR rfl rfl rfl rfl rfl ?_ | refine pB rfl rfl rfl rfl rfl rfl ?_
         first | refine callB [0] [5] rfl rfl rfl rfl rfl (quote_to (s := s) (r := T ++ bytesOf (sepJ k) ++ bytesOf (quoteL (bys s))) (by first | rfl | rw [hs]) (by omega)) rfl rfl (by rfl) (by rfl) rfl rfl rfl rfl ?_ | refine callB [0] [1] rfl rfl rfl rfl rfl (quote_to (s := s) (r := T ++ bytesOf (sepJ k) ++ bytesOf (quoteL (bys s))) (by first | rfl | rw [hs]) (by omega)) rfl rfl (by rfl) (by rfl) rfl rfl rfl rfl ?_
         refine WO.nil (qs (W.region ?_))
         refine pE rfl ?_
         first | refine callB [0] [7] rfl rfl rfl rfl rfl (bbyte_to (c := 58) (s := T ++ bytesOf (sepJ k) ++ bytesOf (quoteL (bys s))) (m := B #[58]) (r := T ++ bytesOf (sepJ k) ++ bytesOf (keyJ j k)) (by rw [hkq, ← catA]; rfl) rfl (one_bb 58).2 (by rw [sz_bytes]; omega)) rfl rfl (by rfl) (by rfl) rfl rfl rfl rfl ?_ | refine callB [0] [5] rfl rfl rfl rfl rfl (bbyte_to (c := 58) (s := T ++ bytesOf (sepJ k) ++ bytesOf (quoteL (bys s))) (m := B #[58]) (r := T ++ bytesOf (sepJ k) ++ bytesOf (keyJ j k)) (by rw [hkq, ← catA]; rfl) rfl (one_bb 58).2 (by rw [sz_bytes]; omega)) rfl rfl (by rfl) (by rfl) rfl rfl rfl rfl ?_
         refine WO.nil (qs (W.region ?_))
         refine pE rfl ?_
         first | refine pE rfl ?_ | refine pR rfl rfl rfl rfl rfl ?_ | refine pB rfl rfl rfl rfl rfl rfl ?_
         first | refine callB [0] [9] rfl rfl rfl rfl rfl (hxc (t := T ++ bytesOf (sepJ k) ++ bytesOf (keyJ j k)) (r := T ++ bytesOf (sepJ k) ++ bytesOf (keyJ j k) ++ bytesOf (printJ z)) rfl (by rw [sz_bytes]; omega)) rfl rfl (by rfl) (by rfl) rfl rfl rfl rfl ?_ | refine callB [0] [7] rfl rfl rfl rfl rfl (hxc (t := T ++ bytesOf (sepJ k) ++ bytesOf (keyJ j k)) (r := T ++ bytesOf (sepJ k) ++ bytesOf (keyJ j k) ++ bytesOf (printJ z)) rfl (by rw [sz_bytes]; omega)) rfl rfl (by rfl) (by rfl) rfl rfl rfl rfl ?_
         refine WO.nil (qbN (qs (W.region ?_)))
         iterate 2 refine pE rfl ?_
         refine WO.nil ?_
         first | (refine W.endR [0, 9, 2] ⟨(k + 1, T ++ bytesOf (sepJ k) ++ bytesOf (keyJ j k) ++ bytesOf (printJ z)), ?_⟩ ?_ rfl ?_ ⟨rfl, rfl, rfl, rfl, rfl, rfl, trivial⟩ ?_ trivial rfl) | (refine W.endR [0, 11, 2] ⟨(k + 1, T ++ bytesOf (sepJ k) ++ bytesOf (keyJ j k) ++ bytesOf (printJ z)), ?_⟩ ?_ rfl ?_ ⟨rfl, rfl, rfl, rfl, rfl, rfl, trivial⟩ ?_ trivial rfl)
         · exact ⟨hlt, hN⟩
         · dsimp only; omega
         · repeat' first | exact trivial | refine ⟨rfl, ?_⟩ | refine ⟨congrArg some (renL_boxE _ _ _), ?_⟩ | refine ⟨step_nat (by assumption) (by assumption), ?_⟩
         · repeat' first | exact trivial | refine ⟨rfl, ?_⟩ | refine ⟨congrArg some (renL_boxE _ _ _), ?_⟩ | refine ⟨step_nat (by assumption) (by assumption), ?_⟩
        ·
         exfalso; simp at h30; omega
      ·
       have e : k = j.kids.length := by have := congrArg List.length hd; simp at this; omega
       have hTs : T.size = t.size + (listJ j k).length + 1 := by rw [hI, sz_bytes]; rfl
       have hfin : T ++ B #[125] = t ++ bytesOf (printJ j) := by
        rw [hI, hg, hC', show (B #[125]) = bytesOf [125] from rfl, catA, e]; rfl
       rw [hg] at hz
       simp only [List.length_cons, List.length_append, List.length_nil] at hz
       rw [← e] at hz
       refine W.exit (qsExit (qlExit (qbExit (qs (W.region ?_)))))
       iterate 2 refine pE rfl ?_
       refine pu (indexStr (b := 125) tab rfl rfl rfl rfl (by decide) rfl) rfl ?_
       refine callB [0] [1] rfl rfl rfl rfl rfl ((bbyte_to (c := 125) (s := T) (m := B #[125]) (r := t ++ bytesOf (printJ j)) hfin rfl (one_bb 125).2 (by omega))) rfl rfl (by rfl) (by rfl) rfl rfl rfl rfl ?_
       refine WO.nil (qbN ?_)
       refine QB1.end tab [4] trivial rfl rfl rfl rfl ?_ ?_
       · exact ⟨rfl, trivial⟩
       rfl
     ·
      exfalso; simp at h11; omega
theorem wprint_arr (j : JV) (u : Bool) (t : ByteArray) (ih : ∀ z ∈ j.kids, ∀ (u : Bool) (t r : ByteArray), t ++ bytesOf (printJ z) = r → t.size + 2 * (printJ z).length + 2 ≤ 140737488355328 → DoesB Tryd.prog 23 [.ptr 0 0, .ag z.c] [[.np 0 tB u, .bf 1 tU t]] 1 (.tup []) [[.np 0 tB true, .bf 1 tU r]] 1) (hop : 1 ≤ j.op ∧ j.op ≤ 6) (htwo : j.op = 2 → j.n = 0 ∨ j.n = 1) (hnum : j.op = 3 → inR j.n = true) (hlen6 : j.op = 6 → j.keys.length = j.kids.length) (hz : t.size + 2 * (printJ j).length + 2 ≤ 140737488355328) (ho : ¬ j.op = 6) :
  DoesB Tryd.prog 23 [.ptr 0 0, .ag j.c] [[.np 0 tB u, .bf 1 tU t]] 1 (.tup []) [[.np 0 tB true, .bf 1 tU (t ++ bytesOf (printJ j))]] 1 := by
 have hO : openJ j = 91 := if_neg ho
 have hC' : closeJ j = 93 := if_neg ho
 rw [jc_map j]
 refine DoesB.of_V tab (n := 74) (rs := []) Tryd.func23 (by kernel_rfl) rfl Tryd.ntmps23 Tryd.results23 rfl rfl fun C hC hG => ?_
 refine W.seq (W.region ?_)
 refine boxR rfl rfl rfl ?_
 refine WO.nil (qs (W.seq (W.region ?_)))
 refine pE rfl ?_
 first | refine pE rfl ?_ | refine pR rfl rfl rfl rfl rfl ?_ | refine pB rfl rfl rfl rfl rfl rfl ?_
 refine WO.nil (qs (W.block (W.seq (W.region ?_))))
 iterate 2 refine pE rfl ?_
 refine WO.nil (qs ?_)
 refine condK rfl (fun h48 => ?_) (fun h48 => ?_)
 ·
  have e : j.op = 1 := by simpa using h48
  have hg := print1 e
  have hgl : (printJ j).length = 4 := by rw [hg]; rfl
  refine W.region ?_
  refine pE rfl ?_
  refine callB [0] [1] rfl rfl rfl rfl rfl ((bwrite_to (s := t) (x := B #[110, 117, 108, 108]) (r := t ++ bytesOf (printJ j)) (by rw [hg]; rfl) (by rw [show (B #[110, 117, 108, 108]).size = 4 from rfl]; omega))) rfl rfl (by rfl) (by rfl) rfl rfl rfl rfl ?_
  refine WO.nil (qbN ?_)
  refine QB1.end tab [4] trivial rfl rfl rfl rfl ?_ ?_
  · exact ⟨rfl, trivial⟩
  rfl
 ·
  have e1 : j.op ≠ 1 := by simpa using h48
  refine W.seq (W.region ?_)
  iterate 2 refine pE rfl ?_
  refine WO.nil (qs ?_)
  refine condK rfl (fun h52 => ?_) (fun h52 => ?_)
  ·
   have e : j.op = 2 := by simpa using h52
   have hg := print2 e
   have hn2 := htwo e
   refine W.region ?_
   refine pE rfl ?_
   refine pu (buildV tab rfl rfl rfl rfl rfl rfl rfl rfl rfl) rfl ?_
   refine pE rfl ?_
   first | refine pE rfl ?_ | refine pR rfl rfl rfl rfl rfl ?_ | refine pB rfl rfl rfl rfl rfl rfl ?_
   refine pu (indexAddr (l := [cs (bytesOf (if j.n = 1 then trueL else falseL))]) tab rfl rfl rfl rfl rfl rfl (by omega) (text2 hn2) rfl) rfl ?_
   first | refine pE rfl ?_ | refine pR rfl rfl rfl rfl rfl ?_ | refine pB rfl rfl rfl rfl rfl rfl ?_
   refine callB [0] [1] rfl rfl rfl rfl rfl ((bwrite_to (s := t) (x := bytesOf (if j.n = 1 then trueL else falseL)) (r := t ++ bytesOf (printJ j)) (by rw [hg]) (by rw [hg] at hz; rw [sz_of]; omega))) rfl rfl (by rfl) (by rfl) rfl rfl rfl rfl ?_
   refine WO.nil (qbN ?_)
   refine QB1.end tab [4] trivial rfl rfl rfl rfl ?_ ?_
   · exact ⟨rfl, trivial⟩
   rfl
  ·
   have e2 : j.op ≠ 2 := by simpa using h52
   refine W.seq (W.region ?_)
   iterate 2 refine pE rfl ?_
   refine WO.nil (qs ?_)
   refine condK rfl (fun h61 => ?_) (fun h61 => ?_)
   ·
    have e : j.op = 3 := by simpa using h61
    have hg := print3 e
    have hi := i64_of (hnum e)
    refine W.region ?_
    iterate 2 refine pE rfl ?_
    first | refine pE rfl ?_ | refine pR rfl rfl rfl rfl rfl ?_ | refine pB rfl rfl rfl rfl rfl rfl ?_
    refine pu (puCall rfl rfl rfl (text_fn j.n hi.1 hi.2) rfl) rfl ?_
    refine callB [0] [1] rfl rfl rfl rfl rfl ((bwrite_to (s := t) (x := numB j.n) (r := t ++ bytesOf (printJ j)) (by rw [hg, bytesOf_bys]) (by rw [hg, bytes_len] at hz; omega))) rfl rfl (by rfl) (by rfl) rfl rfl rfl rfl ?_
    refine WO.nil (qbN ?_)
    refine QB1.end tab [4] trivial rfl rfl rfl rfl ?_ ?_
    · exact ⟨rfl, trivial⟩
    rfl
   ·
    have e3 : j.op ≠ 3 := by simpa using h61
    refine W.seq (W.region ?_)
    iterate 2 refine pE rfl ?_
    refine WO.nil (qs ?_)
    refine condK rfl (fun h68 => ?_) (fun h68 => ?_)
    ·
     have e : j.op = 4 := by simpa using h68
     have hg := print4 e
     have hq := quote_ge j.s
     refine W.region ?_
     iterate 2 refine pE rfl ?_
     first | refine pE rfl ?_ | refine pR rfl rfl rfl rfl rfl ?_ | refine pB rfl rfl rfl rfl rfl rfl ?_
     refine callB [0] [1] rfl rfl rfl rfl rfl ((quote_to (t := t) (s := j.s) (r := t ++ bytesOf (printJ j)) (by rw [hg]) (by rw [hg] at hz; omega))) rfl rfl (by rfl) (by rfl) rfl rfl rfl rfl ?_
     refine WO.nil (qbN ?_)
     refine QB1.end tab [4] trivial rfl rfl rfl rfl ?_ ?_
     · exact ⟨rfl, trivial⟩
     rfl
    ·
     have e4 : j.op ≠ 4 := by simpa using h68
     have hg := print_list e1 e2 e3 e4 hlen6
     refine W.seq (W.region ?_)
     refine pE rfl ?_
     refine WO.nil (qs ?_)
     iterate 2 refine W.seq ?_
     refine W.region ?_
     refine pE rfl ?_
     first | refine pE rfl ?_ | refine pR rfl rfl rfl rfl rfl ?_ | refine pB rfl rfl rfl rfl rfl rfl ?_
     refine pE rfl ?_
     refine WO.nil (qs ?_)
     refine condK rfl (fun h11 => ?_) (fun h11 => ?_)
     ·
      exfalso; simp at h11; omega
     ·
      refine W.skip (qs (W.seq (W.region ?_)))
      iterate 2 refine pE rfl ?_
      refine pu (indexStr (b := 91) tab rfl rfl rfl rfl (by decide) rfl) rfl ?_
      refine callB [0] [1] rfl rfl rfl rfl rfl ((bbyte_to (c := 91) (s := t) (m := B #[91]) (r := t ++ bytesOf [91]) rfl rfl (one_bb 91).2 (by omega))) rfl rfl (by rfl) (by rfl) rfl rfl rfl rfl ?_
      refine WO.nil (qs ?_)
      iterate 2 refine W.seq ?_
      refine W.region ?_
      refine pE rfl ?_
      first | refine pE rfl ?_ | refine pR rfl rfl rfl rfl rfl ?_ | refine pB rfl rfl rfl rfl rfl rfl ?_
      iterate 2 refine pE rfl ?_
      refine WO.nil (qs (W.block ?_))
      refine W.len (t := 17) rfl rfl (fun hlen => ?_)
      try simp only [List.length_map, Ex.kc_len] at hlen
      refine W.loopR (ι := {x : Nat × ByteArray // match x with | (k, T) => k ≤ j.kids.length ∧ T = t ++ bytesOf (openJ j :: listJ j k)})
       (fun x => match x.1 with | (k, T) => [(0, .ptr 0 0), (3, .ptr 2 0), (19, .d (.v (.int .i64 ((k : Nat) : Int))))]) [(4, _), (17, _), (18, _)]
       (fun x => match x.1 with | (k, T) => [(0, [.np 0 tB true, .bf 1 tU T]), (2, [.d (ci j.op), .d (ci j.n), .d (cs j.s), .d (.sl (j.keys.map sc)), .d (.sl (j.kids.map JV.c))])]) [] [1] 3 (fun x => match x.1 with | (k, T) => j.kids.length - k)
       [0, 4, 2] ⟨(0, t ++ bytesOf [91]), ?_⟩ rfl ?_ ⟨rfl, rfl, rfl, rfl, rfl, rfl, trivial⟩ ?_ trivial rfl ?_
      · exact ⟨Nat.zero_le _, by rw [list_zero, hO]⟩
      · repeat' first | exact trivial | refine ⟨rfl, ?_⟩ | refine ⟨congrArg some (renL_boxE _ _ _), ?_⟩ | refine ⟨step_nat (by assumption) (by assumption), ?_⟩
      · repeat' first | exact trivial | refine ⟨rfl, ?_⟩ | refine ⟨congrArg some (renL_boxE _ _ _), ?_⟩ | refine ⟨step_nat (by assumption) (by assumption), ?_⟩
      rintro ⟨⟨k, T⟩, hk, hI⟩
      show W _ _ _ _ _ ⟨[(0, .ptr 0 0), (3, .ptr 2 0), (19, .d (.v (.int .i64 ((k : Nat) : Int)))), (4, _), (17, _), (18, _)], [(0, [.np 0 tB true, .bf 1 tU T]), (2, [.d (ci j.op), .d (ci j.n), .d (cs j.s), .d (.sl (j.keys.map sc)), .d (.sl (j.kids.map JV.c))])], [1], 3⟩
      refine W.seq (W.region ?_)
      refine pE rfl ?_
      refine WO.nil (qs (W.seq ?_))
      refine eachR (l := j.kids) (k := k) rfl (by simp [Ex.kc_len, bytes_len]) hk (fun z hx hd hlt => ?_) (fun he hd => ?_)
      ·
       have hp := list_part hx hlen6
       have hst := list_step hx hlen6
       have hkl : k < j.kids.length := hlt
       rw [hg] at hz
       simp only [List.length_cons, List.length_append, List.length_nil] at hz
       have hTs : T.size = t.size + (listJ j k).length + 1 := by rw [hI, sz_bytes]; rfl
       have hxc : ∀ {u : Bool} {t r : ByteArray}, t ++ bytesOf (printJ z) = r → t.size + 2 * (printJ z).length + 2 ≤ 140737488355328 → DoesB Tryd.prog 23 [.ptr 0 0, .ag z.c] [[.np 0 tB u, .bf 1 tU t]] 1 (.tup []) [[.np 0 tB true, .bf 1 tU r]] 1 := fun {u t r} => ih z (List.mem_of_getElem? hx) u t r
       have hN : T ++ bytesOf (sepJ k) ++ bytesOf (keyJ j k) ++ bytesOf (printJ z) = t ++ bytesOf (openJ j :: listJ j (k + 1)) := by
        rw [hI, catA, catA, catA, hst]; simp only [List.append_assoc, List.cons_append]
       have hsepl : (sepJ k).length ≤ 1 := by unfold sepJ; split <;> simp
       have hkq : T ++ bytesOf (sepJ k) ++ bytesOf (keyJ j k) = T ++ bytesOf (sepJ k) := by
        rw [show keyJ j k = [] from if_neg ho]
        exact bys_inj (by show bys _ = bys _; rw [cat_bytes]; simp)
       have hs0 : (T ++ bytesOf (sepJ k)).size ≤ T.size + 1 := by rw [sz_bytes]; omega
       refine W.skip (qs (W.seq (W.block (W.seq (W.region ?_)))))
       refine pE rfl ?_
       refine pu (indexAddr (l := z.c) tab rfl rfl rfl rfl rfl rfl (Int.natCast_nonneg _) (idx_map hx) rfl) rfl ?_
       first | refine pE rfl ?_ | refine pR rfl rfl rfl rfl rfl ?_ | refine pB rfl rfl rfl rfl rfl rfl ?_
       refine allocR tab rfl rfl rfl ?_
       refine pE rfl ?_
       refine storeR tab rfl rfl rfl rfl rfl rfl rfl rfl ?_
       refine WO.nil (qs ?_)
       iterate 2 refine W.seq ?_
       refine W.region ?_
       iterate 2 refine pE rfl ?_
       refine WO.nil (qs ?_)
       refine condK rfl (fun h25 => ?_) (fun h25 => ?_)
       ·
        have hs4 : bytesOf (sepJ k) = B #[44] := by unfold sepJ; rw [if_neg (by simp at h25; omega)]; rfl
        refine W.region ?_
        refine pE rfl ?_
        refine callB [0] [1] rfl rfl rfl rfl rfl ((bbyte_to (c := 44) (s := T) (m := B #[44]) (r := T ++ bytesOf (sepJ k)) (by rw [hs4]) rfl (one_bb 44).2 (by omega))) rfl rfl (by rfl) (by rfl) rfl rfl rfl rfl ?_
        refine WO.nil (qs ?_)
        iterate 2 refine W.seq ?_
        refine W.region ?_
        refine pE rfl ?_
        first | refine pE rfl ?_ | refine pR rfl rfl rfl rfl rfl ?_ | refine pB rfl rfl rfl rfl rfl rfl ?_
        refine pE rfl ?_
        refine WO.nil (qs ?_)
        refine condK rfl (fun h30 => ?_) (fun h30 => ?_)
        ·
         exfalso; simp at h30; omega
        ·
         refine W.skip (qs (W.region ?_))
         refine pE rfl ?_
         first | refine pE rfl ?_ | refine pR rfl rfl rfl rfl rfl ?_ | refine pB rfl rfl rfl rfl rfl rfl ?_
         first | refine callB [0] [5] rfl rfl rfl rfl rfl (hxc (r := T ++ bytesOf (sepJ k) ++ bytesOf (keyJ j k) ++ bytesOf (printJ z)) (by first | (rw [hkq]; done) | rw [hkq, hs]) (by omega)) rfl rfl (by rfl) (by rfl) rfl rfl rfl rfl ?_ | refine callB [0] [1] rfl rfl rfl rfl rfl (hxc (r := T ++ bytesOf (sepJ k) ++ bytesOf (keyJ j k) ++ bytesOf (printJ z)) (by first | (rw [hkq]; done) | rw [hkq, hs]) (by omega)) rfl rfl (by rfl) (by rfl) rfl rfl rfl rfl ?_
         refine WO.nil (qbN (qs (W.region ?_)))
         iterate 2 refine pE rfl ?_
         refine WO.nil ?_
         first | (refine W.endR [0, 5, 2] ⟨(k + 1, T ++ bytesOf (sepJ k) ++ bytesOf (keyJ j k) ++ bytesOf (printJ z)), ?_⟩ ?_ rfl ?_ ⟨rfl, rfl, rfl, rfl, rfl, rfl, trivial⟩ ?_ trivial rfl) | (refine W.endR [0, 7, 2] ⟨(k + 1, T ++ bytesOf (sepJ k) ++ bytesOf (keyJ j k) ++ bytesOf (printJ z)), ?_⟩ ?_ rfl ?_ ⟨rfl, rfl, rfl, rfl, rfl, rfl, trivial⟩ ?_ trivial rfl)
         · exact ⟨hlt, hN⟩
         · dsimp only; omega
         · repeat' first | exact trivial | refine ⟨rfl, ?_⟩ | refine ⟨congrArg some (renL_boxE _ _ _), ?_⟩ | refine ⟨step_nat (by assumption) (by assumption), ?_⟩
         · repeat' first | exact trivial | refine ⟨rfl, ?_⟩ | refine ⟨congrArg some (renL_boxE _ _ _), ?_⟩ | refine ⟨step_nat (by assumption) (by assumption), ?_⟩
       ·
        have hs : T ++ bytesOf (sepJ k) = T := by
         unfold sepJ; rw [if_pos (by simp at h25; omega)]
         exact bys_inj (by show bys _ = bys _; rw [cat_bytes]; simp)
        refine W.skip (qs ?_)
        iterate 2 refine W.seq ?_
        refine W.region ?_
        refine pE rfl ?_
        first | refine pE rfl ?_ | refine pR rfl rfl rfl rfl rfl ?_ | refine pB rfl rfl rfl rfl rfl rfl ?_
        refine pE rfl ?_
        refine WO.nil (qs ?_)
        refine condK rfl (fun h30 => ?_) (fun h30 => ?_)
        ·
         exfalso; simp at h30; omega
        ·
         refine W.skip (qs (W.region ?_))
         refine pE rfl ?_
         first | refine pE rfl ?_ | refine pR rfl rfl rfl rfl rfl ?_ | refine pB rfl rfl rfl rfl rfl rfl ?_
         first | refine callB [0] [5] rfl rfl rfl rfl rfl (hxc (r := T ++ bytesOf (sepJ k) ++ bytesOf (keyJ j k) ++ bytesOf (printJ z)) (by first | (rw [hkq]; done) | rw [hkq, hs]) (by omega)) rfl rfl (by rfl) (by rfl) rfl rfl rfl rfl ?_ | refine callB [0] [1] rfl rfl rfl rfl rfl (hxc (r := T ++ bytesOf (sepJ k) ++ bytesOf (keyJ j k) ++ bytesOf (printJ z)) (by first | (rw [hkq]; done) | rw [hkq, hs]) (by omega)) rfl rfl (by rfl) (by rfl) rfl rfl rfl rfl ?_
         refine WO.nil (qbN (qs (W.region ?_)))
         iterate 2 refine pE rfl ?_
         refine WO.nil ?_
         first | (refine W.endR [0, 5, 2] ⟨(k + 1, T ++ bytesOf (sepJ k) ++ bytesOf (keyJ j k) ++ bytesOf (printJ z)), ?_⟩ ?_ rfl ?_ ⟨rfl, rfl, rfl, rfl, rfl, rfl, trivial⟩ ?_ trivial rfl) | (refine W.endR [0, 7, 2] ⟨(k + 1, T ++ bytesOf (sepJ k) ++ bytesOf (keyJ j k) ++ bytesOf (printJ z)), ?_⟩ ?_ rfl ?_ ⟨rfl, rfl, rfl, rfl, rfl, rfl, trivial⟩ ?_ trivial rfl)
         · exact ⟨hlt, hN⟩
         · dsimp only; omega
         · repeat' first | exact trivial | refine ⟨rfl, ?_⟩ | refine ⟨congrArg some (renL_boxE _ _ _), ?_⟩ | refine ⟨step_nat (by assumption) (by assumption), ?_⟩
         · repeat' first | exact trivial | refine ⟨rfl, ?_⟩ | refine ⟨congrArg some (renL_boxE _ _ _), ?_⟩ | refine ⟨step_nat (by assumption) (by assumption), ?_⟩
      ·
       have e : k = j.kids.length := by have := congrArg List.length hd; simp at this; omega
       have hTs : T.size = t.size + (listJ j k).length + 1 := by rw [hI, sz_bytes]; rfl
       have hfin : T ++ B #[93] = t ++ bytesOf (printJ j) := by
        rw [hI, hg, hC', show (B #[93]) = bytesOf [93] from rfl, catA, e]; rfl
       rw [hg] at hz
       simp only [List.length_cons, List.length_append, List.length_nil] at hz
       rw [← e] at hz
       refine W.exit (qsExit (qlExit (qbExit (qs (W.region ?_)))))
       iterate 2 refine pE rfl ?_
       refine pu (indexStr (b := 93) tab rfl rfl rfl rfl (by decide) rfl) rfl ?_
       refine callB [0] [1] rfl rfl rfl rfl rfl ((bbyte_to (c := 93) (s := T) (m := B #[93]) (r := t ++ bytesOf (printJ j)) hfin rfl (one_bb 93).2 (by omega))) rfl rfl (by rfl) (by rfl) rfl rfl rfl rfl ?_
       refine WO.nil (qbN ?_)
       refine QB1.end tab [4] trivial rfl rfl rfl rfl ?_ ?_
       · exact ⟨rfl, trivial⟩
       rfl
theorem wprint_fn : ∀ (j : JV) (lv : Int), checkJ j lv = 0 → ∀ (u : Bool) (t r : ByteArray), t ++ bytesOf (printJ j) = r → t.size + 2 * (printJ j).length + 2 ≤ 140737488355328 → DoesB Tryd.prog 23 [.ptr 0 0, .ag j.c] [[.np 0 tB u, .bf 1 tU t]] 1 (.tup []) [[.np 0 tB true, .bf 1 tU r]] 1 := by
 refine JV.ind fun j ih => ?_
 intro lv hc u t r e hz
 subst e
 obtain ⟨hop, htwo, hnum, hlen6, hkids⟩ := okN hc
 by_cases ho : j.op = 6
 · exact wprint_obj j u t (fun z h1 => ih z h1 _ (hkids z h1)) hop htwo hnum hlen6 hz ho
 · exact wprint_arr j u t (fun z h1 => ih z h1 _ (hkids z h1)) hop htwo hnum hlen6 hz ho
end Go.Proofs.YtllkpgnpioojjaaDoor
namespace Go.Proofs.YtllkpgnpioojjaaDoor
open Go.Ab Go.Tb
set_option maxRecDepth 10000
attribute [local irreducible] W WO Pu QS QB QL QF QV QV1 CH QE
def textOf (j : JV) : ByteArray := if checkJ j 1 = 0 then bytesOf (printJ j) else B #[]
theorem pPrintH_fn (j : JV) (hz : checkJ j 1 = 0 → (printJ j).length ≤ 1000000000000) : DoesH Tryd.prog (fun _ => True) 11 [.ag j.c] (.tup [.d (.v (.string (textOf j))), .d (.v (.int .i64 (checkJ j 1)))]) 0 := by
 have hc := pCheck_fn j
 rw [jc_map j] at hc ⊢
 refine DoesH.of_V tab (n := 14) (rs := [.tmp 2, .tmp 3]) Tryd.func11 (by kernel_rfl) rfl Tryd.ntmps11 Tryd.results11 rfl fun C hC hG hH hfp => ?_
 refine W.seq (W.region ?_)
 refine boxR rfl rfl rfl ?_
 iterate 2 refine pE rfl ?_
 refine WO.nil (qs ?_)
 iterate 2 refine W.seq ?_
 refine W.region ?_
 first | refine pE rfl ?_ | refine pR rfl rfl rfl rfl rfl ?_ | refine pB rfl rfl rfl rfl rfl rfl ?_
 refine pu (puCall rfl rfl rfl hc rfl) rfl ?_
 refine pE rfl ?_
 refine WO.nil (qs (W.seq (W.region ?_)))
 iterate 2 refine pE rfl ?_
 refine WO.nil (qs ?_)
 refine condK rfl (fun h9 => ?_) (fun h9 => ?_)
 ·
  have hg : textOf j = B #[] := by unfold textOf; rw [if_neg (by simpa using h9)]
  refine W.seq (W.region ?_)
  iterate 3 refine pE rfl ?_
  refine WO.nil (qs (W.ret (qsRet ?_)))
  refine QV.ret0 tab trivial rfl ?_
  rw [hg]; rfl
 ·
  have h0 : checkJ j 1 = 0 := by simpa using h9
  have hg : textOf j = bytesOf (printJ j) := by unfold textOf; rw [if_pos h0]
  have hz0 := hz h0
  refine W.skip (qs (W.seq (W.region ?_)))
  refine allocB tab tU rfl rfl rfl ?_
  refine WO.nil (qs (W.seq (W.region ?_)))
  first | refine pE rfl ?_ | refine pR rfl rfl rfl rfl rfl ?_ | refine pB rfl rfl rfl rfl rfl rfl ?_
  refine callB [1] [2] rfl rfl rfl rfl rfl (((congrArg (fun c => DoesB Tryd.prog 23 [.ptr 0 0, .ag c] [[.np 0 tB false, .bf 1 tU .empty]] 1 (.tup []) [[.np 0 tB true, .bf 1 tU (bytesOf (printJ j))]] 1) (jc_map j)).mp (wprint_fn j 1 h0 false .empty (bytesOf (printJ j)) (bys_inj rfl) (by rw [show (ByteArray.empty).size = 0 from rfl]; omega)))) rfl rfl (by rfl) (by rfl) rfl rfl rfl rfl ?_
  refine WO.nil (qs (W.seq (W.region ?_)))
  refine strEnd hfp rfl rfl rfl rfl bld_st bld_str (by rw [sz_of]; simp only [maxLen]; omega) rfl ?_
  iterate 2 refine pE rfl ?_
  refine WO.nil (qs (W.ret ?_))
  refine QV.ret0 tab trivial rfl ?_
  rw [hg, h0]; rfl
theorem pPrint_fn (j : JV) (hz : checkJ j 1 = 0 → (printJ j).length ≤ 1000000000000) : Does Tryd.prog 11 [.ag j.c] (.tup [.d (.v (.string (textOf j))), .d (.v (.int .i64 (checkJ j 1)))]) 0 := (pPrintH_fn j hz).does fun _ => trivial
end Go.Proofs.YtllkpgnpioojjaaDoor
namespace Go.Proofs.YtllkpgnpioojjaaDoor
open Go.Ab Go.Tb
set_option maxRecDepth 10000
attribute [local irreducible] W WO Pu QS QB QL QF QV QV1 CH QE
abbrev w64 (n : Int) : Int := IntKind.i64.wrap n
end Go.Proofs.YtllkpgnpioojjaaDoor
namespace Go.Proofs.YtllkpgnpioojjaaDoor
open Go.Ab Go.Tb
set_option maxRecDepth 10000
attribute [local irreducible] W WO Pu QS QB QL QF QV QV1 CH QE
theorem fails_fn (a w : Int) : DoesP Tryd.prog 34 [.d (.v (.int .i64 a)), .d (.v (.int .i64 w))] [] 0 (.iface 57 (.agg #[.int .i64 a, .int .i64 w])) := by
 refine DoesP.of_W (n := 8) Tryd.func34 (by kernel_rfl) rfl Tryd.ntmps34 rfl fun C hC hG => ?_
 refine W.region ?_
 iterate 2 refine pE rfl ?_
 refine pu (build tab rfl rfl rfl rfl) rfl ?_
 refine pu (mkIface (l := [.int .i64 a, .int .i64 w]) tab rfl rfl rfl) rfl ?_
 refine panicO rfl (fun st' => ?_)
 repeat' first | refine qsPan ?_ | refine qbPan ?_ | refine qlPan ?_ | refine qcPan ?_
 exact rfl
theorem here_at {s : ByteArray} {i : Nat} (h : i < s.size) : (bys s)[i]? = some (hereB (bys s) i) := by
 have : i < (bys s).length := by rw [bytes_len]; exact h
 rw [List.getElem?_eq_getElem this]
 simp [hereB, List.getD_eq_getElem?_getD, List.getElem?_eq_getElem this]
theorem here_fn (s : ByteArray) (i : Nat) : DoesB Tryd.prog 56 [.ptr 0 0] [pbox s i] 0 (.d (.v (.int .u8 (hereB (bys s) i).toNat))) [pbox s i] 0 := by
 refine DoesB.of_V tab (n := 22) (rs := [.tmp 2]) Tryd.func56 (by kernel_rfl) rfl Tryd.ntmps56 Tryd.results56 rfl rfl fun C hC hG => ?_
 refine W.seq (W.region ?_)
 refine pE rfl ?_
 refine WO.nil (qs ?_)
 iterate 2 refine W.seq ?_
 refine W.regionD tab (by kernel_rfl) ?_
 iterate 3 refine chPu (ev tab rfl) rfl ?_
 first | refine chPu (ev tab rfl) rfl ?_ | refine chPu (loadRow tab rfl rfl rfl rfl) rfl ?_ | refine chPu (loadBox tab rfl rfl rfl rfl rfl) rfl ?_
 iterate 3 refine chPu (ev tab rfl) rfl ?_
 first | refine chPu (ev tab rfl) rfl ?_ | refine chPu (loadRow tab rfl rfl rfl rfl) rfl ?_ | refine chPu (loadBox tab rfl rfl rfl rfl rfl) rfl ?_
 iterate 2 refine chPu (ev tab rfl) rfl ?_
 refine CH.nil ?_
 refine qs ?_
 refine condK rfl (fun h12 => ?_) (fun h12 => ?_)
 ·
  have hg : hereB (bys s) i = 0 := here_end (by rw [bytes_len]; simpa using h12)
  refine W.seq (W.region ?_)
  refine pE rfl ?_
  refine WO.nil (qs (W.ret (qsRet ?_)))
  refine QB1.end tab [] trivial rfl rfl rfl rfl ?_ ?_
  · exact ⟨rfl, trivial⟩
  rw [hg]; rfl
 ·
  have hb := here_at (s := s) (i := i) (by simpa using h12)
  refine W.skip (qs (W.seq ?_))
  refine W.regionD tab (by kernel_rfl) ?_
  iterate 3 refine chPu (ev tab rfl) rfl ?_
  first | refine chPu (ev tab rfl) rfl ?_ | refine chPu (loadRow tab rfl rfl rfl rfl) rfl ?_ | refine chPu (loadBox tab rfl rfl rfl rfl rfl) rfl ?_
  iterate 3 refine chPu (ev tab rfl) rfl ?_
  first | refine chPu (ev tab rfl) rfl ?_ | refine chPu (loadRow tab rfl rfl rfl rfl) rfl ?_ | refine chPu (loadBox tab rfl rfl rfl rfl rfl) rfl ?_
  refine chPu (indexStr tab rfl rfl rfl rfl (Int.natCast_nonneg _) (byteList hb)) rfl ?_
  refine chPu (ev tab rfl) rfl ?_
  refine CH.nil ?_
  refine qs (W.ret ?_)
  refine QB1.end tab [] trivial rfl rfl rfl rfl ?_ ?_
  · exact ⟨rfl, trivial⟩
  rfl
end Go.Proofs.YtllkpgnpioojjaaDoor
namespace Go.Proofs.YtllkpgnpioojjaaDoor
open Go.Ab Go.Tb
set_option maxRecDepth 10000
attribute [local irreducible] W WO Pu QS QB QL QF QV QV1 CH QE
theorem isWs_idx (b : UInt8) : decide (0 ≤ Lib.indexByte (bys (B #[32, 9, 10, 13])) b) = isWs b := by
 rw [Bool.eq_iff_iff, decide_eq_true_eq, indexByte_ge0]
 unfold isWs
 simp only [bys, Bool.or_eq_true, decide_eq_true_eq]
 show b ∈ [32, 9, 10, 13] ↔ _
 simp only [List.mem_cons, List.mem_nil_iff, or_false, ← UInt8.toNat_inj]
 rfl
theorem peek_fn (s : ByteArray) (i : Nat) (hi : i ≤ s.size) (hs : s.size ≤ 1000000000) : DoesB Tryd.prog 33 [.ptr 0 0] [pbox s i] 0 (.d (.v (.int .u8 (hereB (bys s) (skipB (bys s) i)).toNat))) [pbox s (skipB (bys s) i)] 0 := by
 refine DoesB.of_V tab (n := 35) (rs := [.tmp 2]) Tryd.func33 (by kernel_rfl) rfl Tryd.ntmps33 Tryd.results33 rfl rfl fun C hC hG => ?_
 refine W.seq (W.region ?_)
 refine pE rfl ?_
 refine WO.nil (qs (W.seq (W.block ?_)))
 refine W.loopR (ι := {x : Nat // match x with | j => j ≤ s.size ∧ skipB (bys s) j = skipB (bys s) i})
  (fun x => match x.1 with | j => [(0, .ptr 0 0)]) []
  (fun x => match x.1 with | j => [(0, [.d (cs s), .d (.v (.int .i64 (j : Int)))])]) [] [] 1 (fun x => match x.1 with | j => s.size - j)
  [0] ⟨i, ?_⟩ rfl ?_ trivial ?_ trivial rfl ?_
 · exact ⟨hi, rfl⟩
 · repeat' first | exact trivial | refine ⟨rfl, ?_⟩ | refine ⟨congrArg some (renL_boxE _ _ _), ?_⟩ | refine ⟨step_nat (by assumption) (by assumption), ?_⟩
 · repeat' first | exact trivial | refine ⟨rfl, ?_⟩ | refine ⟨congrArg some (renL_boxE _ _ _), ?_⟩ | refine ⟨step_nat (by assumption) (by assumption), ?_⟩
 rintro ⟨j, hk, hI⟩
 show W _ _ _ _ _ ⟨[(0, .ptr 0 0)], [(0, [.d (cs s), .d (.v (.int .i64 (j : Int)))])], [], 1⟩
 iterate 2 refine W.seq ?_
 apply regionDB tab; (case hb => rfl); (case hB => kernel_rfl)
 ·
  iterate 3 refine chPu (ev tab rfl) rfl ?_
  first | refine chPu (ev tab rfl) rfl ?_ | refine chPu (loadRow tab rfl rfl rfl rfl) rfl ?_ | refine chPu (loadBox tab rfl rfl rfl rfl rfl) rfl ?_
  iterate 3 refine chPu (ev tab rfl) rfl ?_
  first | refine chPu (ev tab rfl) rfl ?_ | refine chPu (loadRow tab rfl rfl rfl rfl) rfl ?_ | refine chPu (loadBox tab rfl rfl rfl rfl rfl) rfl ?_
  iterate 3 refine chPu (ev tab rfl) rfl ?_
  apply chSplitH; (case hj => rfl); (case hl => rfl)
  ·
   intro g13
   refine chGo rfl rfl (ev tab rfl) rfl ?_
   refine chGo rfl rfl (ev tab rfl) rfl ?_
   refine chGo rfl rfl (ev tab rfl) rfl ?_
   first | refine chGo rfl rfl (ev tab rfl) rfl ?_ | refine chGo rfl rfl (loadRow tab rfl rfl rfl rfl) rfl ?_ | refine chGo rfl rfl (loadBox tab rfl rfl rfl rfl rfl) rfl ?_
   refine chGo rfl rfl (ev tab rfl) rfl ?_
   refine chGo rfl rfl (ev tab rfl) rfl ?_
   refine chGo rfl rfl (ev tab rfl) rfl ?_
   first | refine chGo rfl rfl (ev tab rfl) rfl ?_ | refine chGo rfl rfl (loadRow tab rfl rfl rfl rfl) rfl ?_ | refine chGo rfl rfl (loadBox tab rfl rfl rfl rfl rfl) rfl ?_
   refine chGo rfl rfl (indexStr tab rfl rfl rfl rfl (Int.natCast_nonneg _) (byteList (here_at (s := s) (i := j) (by simpa using g13)))) rfl ?_
   refine chGo rfl rfl (puCall rfl rfl rfl (sixb_fn (B #[32, 9, 10, 13]) (hereB (bys s) j)) rfl) rfl ?_
   refine chGo rfl rfl (ev tab rfl) rfl ?_
   refine chPu (ev tab rfl) rfl ?_
   refine CH.nil ?_
   refine qv1 rfl rfl rfl
  ·
   intro g13
   iterate 11 refine chSkip rfl rfl rfl rfl ?_
   refine chPu (ev tab rfl) rfl ?_
   refine CH.nil ?_
   refine qv1 rfl rfl rfl
 refine qs ?_
 refine condK rfl (fun h25 => ?_) (fun h25 => ?_)
 ·
  have q : j < s.size ∧ isWs (hereB (bys s) j) = true := by revert h25; rw [isWs_idx]; simp
  have hst := skipB_step (l := bys s) (i := j) (by rw [bytes_len]; exact q.1) q.2
  refine W.skip (qs (W.block (W.region ?_)))
  iterate 3 refine pE rfl ?_
  first | refine pE rfl ?_ | refine pR rfl rfl rfl rfl rfl ?_ | refine pB rfl rfl rfl rfl rfl rfl ?_
  refine pu (puI (ev tab rfl) (y := ((j + 1 : Nat) : Int)) (wrap64 (by omega))) rfl ?_
  iterate 2 refine pE rfl ?_
  refine storeR tab rfl rfl rfl rfl rfl rfl rfl rfl ?_
  refine WO.nil (qbN ?_)
  refine W.endR [0] ⟨j + 1, ?_⟩ ?_ rfl ?_ trivial ?_ trivial rfl
  · exact ⟨q.1, by rw [← hst, hI]⟩
  · dsimp only; omega
  · repeat' first | exact trivial | refine ⟨rfl, ?_⟩ | refine ⟨congrArg some (renL_boxE _ _ _), ?_⟩ | refine ⟨step_nat (by assumption) (by assumption), ?_⟩
  · repeat' first | exact trivial | refine ⟨rfl, ?_⟩ | refine ⟨congrArg some (renL_boxE _ _ _), ?_⟩ | refine ⟨step_nat (by assumption) (by assumption), ?_⟩
 ·
  have q : skipB (bys s) i = j := by
   rw [← hI]
   by_cases q1 : j < s.size
   · exact skipB_stay (by revert h25; rw [isWs_idx]; simp [q1])
   · exact skipB_end (by rw [bytes_len]; omega)
  refine W.exit (qsExit (qlExit (qbExit (qs (W.seq (W.region ?_))))))
  refine pE rfl ?_
  refine callB [0] [] rfl rfl rfl rfl rfl ((here_fn s j)) rfl rfl (by rfl) (by rfl) rfl rfl rfl rfl ?_
  refine pE rfl ?_
  refine WO.nil (qs (W.ret ?_))
  refine QB1.end tab [] trivial rfl rfl rfl rfl ?_ ?_
  · rw [q]; exact ⟨rfl, trivial⟩
  rw [q]; rfl
theorem take_fn (s : ByteArray) (c : UInt8) (i : Nat) (hs : s.size ≤ 1000000000) : DoesE Tryd.prog 70 [.ptr 0 0, .d (.v (.int .u8 c.toNat))] [pbox s i] 0 (outP 57 s (fun _ => .tup []) (takeJ (bys s) c i)) := by
 refine DoesE.of_V tab (n := 39) (rs := []) Tryd.func70 (by kernel_rfl) rfl Tryd.ntmps70 Tryd.results70 rfl (outP_len ..) fun C hC hG => ?_
 iterate 2 refine W.seq ?_
 apply regionDB tab; (case hb => rfl); (case hB => kernel_rfl)
 ·
  iterate 3 refine chPu (ev tab rfl) rfl ?_
  first | refine chPu (ev tab rfl) rfl ?_ | refine chPu (loadRow tab rfl rfl rfl rfl) rfl ?_ | refine chPu (loadBox tab rfl rfl rfl rfl rfl) rfl ?_
  iterate 3 refine chPu (ev tab rfl) rfl ?_
  first | refine chPu (ev tab rfl) rfl ?_ | refine chPu (loadRow tab rfl rfl rfl rfl) rfl ?_ | refine chPu (loadBox tab rfl rfl rfl rfl rfl) rfl ?_
  iterate 3 refine chPu (ev tab rfl) rfl ?_
  apply chSplitH; (case hj => rfl); (case hl => rfl)
  ·
   intro g14
   iterate 11 refine chSkip rfl rfl rfl rfl ?_
   refine chPu (ev tab rfl) rfl ?_
   refine CH.nil ?_
   refine qv1 rfl rfl rfl
  ·
   intro g14
   refine chGo rfl rfl (ev tab rfl) rfl ?_
   refine chGo rfl rfl (ev tab rfl) rfl ?_
   refine chGo rfl rfl (ev tab rfl) rfl ?_
   first | refine chGo rfl rfl (ev tab rfl) rfl ?_ | refine chGo rfl rfl (loadRow tab rfl rfl rfl rfl) rfl ?_ | refine chGo rfl rfl (loadBox tab rfl rfl rfl rfl rfl) rfl ?_
   refine chGo rfl rfl (ev tab rfl) rfl ?_
   refine chGo rfl rfl (ev tab rfl) rfl ?_
   refine chGo rfl rfl (ev tab rfl) rfl ?_
   first | refine chGo rfl rfl (ev tab rfl) rfl ?_ | refine chGo rfl rfl (loadRow tab rfl rfl rfl rfl) rfl ?_ | refine chGo rfl rfl (loadBox tab rfl rfl rfl rfl rfl) rfl ?_
   refine chGo rfl rfl (indexStr tab rfl rfl rfl rfl (Int.natCast_nonneg _) (byteList (here_at (s := s) (i := i) (by simpa using g14)))) rfl ?_
   refine chGo rfl rfl (ev tab rfl) rfl ?_
   refine chGo rfl rfl (ev tab rfl) rfl ?_
   refine chPu (ev tab rfl) rfl ?_
   refine CH.nil ?_
   refine qv1 rfl rfl rfl
 refine qs ?_
 refine condK rfl (fun h26 => ?_) (fun h26 => ?_)
 ·
  have hx : takeJ (bys s) c i = .no i 10 := by
   unfold takeJ
   rw [if_neg]
   rintro ⟨q1, q2⟩
   rw [bytes_len] at q1
   revert h26; simp [q1, q2]
  refine W.region ?_
  iterate 3 refine pE rfl ?_
  first | refine pE rfl ?_ | refine pR rfl rfl rfl rfl rfl ?_ | refine pB rfl rfl rfl rfl rfl rfl ?_
  refine callP [] [] rfl rfl rfl rfl rfl (fails_fn i 10) rfl rfl (by rfl) (fun st' => ?_)
  repeat' first | refine qsPan ?_ | refine qbPan ?_ | refine qlPan ?_ | refine qcPan ?_
  exact qxPan (outP_no hx)
 ·
  have hx : takeJ (bys s) c i = .ok () (i + 1) ∧ i < s.size := by
   have q : i < s.size ∧ hereB (bys s) i = c := by
    revert h26; simp; intro q1 q2; exact ⟨q1, UInt8.toNat_inj.1 (by omega)⟩
   exact ⟨by unfold takeJ; rw [if_pos ⟨by rw [bytes_len]; exact q.1, q.2⟩], q.1⟩
  refine W.skip (qs (W.region ?_))
  iterate 3 refine pE rfl ?_
  first | refine pE rfl ?_ | refine pR rfl rfl rfl rfl rfl ?_ | refine pB rfl rfl rfl rfl rfl rfl ?_
  refine pu (puI (ev tab rfl) (y := ((i + 1 : Nat) : Int)) (wrap64 (by omega))) rfl ?_
  iterate 2 refine pE rfl ?_
  refine storeR tab rfl rfl rfl rfl rfl rfl rfl rfl ?_
  refine WO.nil ?_
  refine qxRet (outP_ok (hx.1)) ?_
  refine QB1.end tab [] trivial rfl rfl rfl rfl ?_ ?_
  · exact ⟨rfl, trivial⟩
  rfl
end Go.Proofs.YtllkpgnpioojjaaDoor
namespace Go.Proofs.YtllkpgnpioojjaaDoor
open Go.Ab Go.Tb
set_option maxRecDepth 10000
attribute [local irreducible] W WO Pu QS QB QL QF QV QV1 CH QE
theorem word_fn (s w : ByteArray) (i : Nat) (hs : s.size ≤ 1000000000) : DoesE Tryd.prog 50 [.ptr 0 0, .d (.v (.string w))] [pbox s i] 0 (outP 57 s (fun _ => .tup []) (wordJ (bys s) (bys w) i)) := by
 refine DoesE.of_V tab (n := 16) (rs := []) Tryd.func50 (by kernel_rfl) rfl Tryd.ntmps50 Tryd.results50 rfl (outP_len ..) fun C hC hG => ?_
 refine W.seq (W.region ?_)
 iterate 3 refine pE rfl ?_
 refine WO.nil (qs (W.block ?_))
 refine W.inRange (t := 1) rfl (fun hok => ?_)
 have hlen := okc_size hok
 refine W.loopR (ι := {x : Nat × Nat // match x with | (k, j) => k ≤ (bys w).length ∧ wordJ (bys s) ((bys w).drop k) j = wordJ (bys s) (bys w) i})
  (fun x => match x.1 with | (k, j) => [(0, .ptr 0 0), (7, .d (.v (.int .i64 ((k : Nat) : Int))))]) [(1, _), (6, _)]
  (fun x => match x.1 with | (k, j) => [(0, [.d (cs s), .d (.v (.int .i64 (j : Int)))])]) [] [] 1 (fun x => match x.1 with | (k, j) => (bys w).length - k)
  [0] ⟨(0, i), ?_⟩ rfl ?_ ⟨rfl, rfl, rfl, rfl, trivial⟩ ?_ trivial rfl ?_
 · exact ⟨Nat.zero_le _, rfl⟩
 · repeat' first | exact trivial | refine ⟨rfl, ?_⟩ | refine ⟨congrArg some (renL_boxE _ _ _), ?_⟩ | refine ⟨step_nat (by assumption) (by assumption), ?_⟩
 · repeat' first | exact trivial | refine ⟨rfl, ?_⟩ | refine ⟨congrArg some (renL_boxE _ _ _), ?_⟩ | refine ⟨step_nat (by assumption) (by assumption), ?_⟩
 rintro ⟨⟨k, j⟩, hk, hI⟩
 show W _ _ _ _ _ ⟨[(0, .ptr 0 0), (7, .d (.v (.int .i64 ((k : Nat) : Int)))), (1, _), (6, _)], [(0, [.d (cs s), .d (.v (.int .i64 (j : Int)))])], [], 1⟩
 refine W.seq (W.region ?_)
 refine pE rfl ?_
 refine WO.nil (qs (W.seq ?_))
 refine eachR (l := bys w) (k := k) rfl (by simp [Ex.kc_len, bytes_len]) hk (fun b hx hd hlt => ?_) (fun he hd => ?_)
 ·
  rw [hd] at hI
  simp only [wordJ] at hI
  refine W.skip (qs (W.seq (W.block (W.seq (W.region ?_)))))
  iterate 2 refine pE rfl ?_
  refine WO.nil (qs (W.region ?_))
  iterate 3 refine pE rfl ?_
  refine pu (indexStr tab rfl rfl rfl rfl (Int.natCast_nonneg _) (byteList (by assumption))) rfl ?_
  cases hc14 : takeJ (bys s) b j with
  | no a14 w14 =>
   refine callP [0] [] rfl rfl rfl rfl rfl ((take_fn s b j hs).pan (outP_no hc14)) rfl rfl (by rfl) (fun st' => ?_)
   repeat' first | refine qsPan ?_ | refine qbPan ?_ | refine qlPan ?_ | refine qcPan ?_
   refine qxPan (outP_no (by rw [← hI, hc14]))
  | ok y14 i14 =>
   refine callB [0] [] rfl rfl rfl rfl rfl ((take_fn s b j hs).ret (outP_ok hc14)) rfl rfl (by rfl) (by rfl) rfl rfl rfl rfl ?_
   refine WO.nil (qbN (qs (W.region ?_)))
   iterate 2 refine pE rfl ?_
   refine WO.nil ?_
   refine W.endR [0] ⟨(k + 1, i14), ?_⟩ ?_ rfl ?_ ⟨rfl, rfl, rfl, rfl, trivial⟩ ?_ trivial rfl
   · exact ⟨hlt, by rw [← hI, hc14]⟩
   · dsimp only; omega
   · repeat' first | exact trivial | refine ⟨rfl, ?_⟩ | refine ⟨congrArg some (renL_boxE _ _ _), ?_⟩ | refine ⟨step_nat (by assumption) (by assumption), ?_⟩
   · repeat' first | exact trivial | refine ⟨rfl, ?_⟩ | refine ⟨congrArg some (renL_boxE _ _ _), ?_⟩ | refine ⟨step_nat (by assumption) (by assumption), ?_⟩
 ·
  rw [hd] at hI
  simp only [wordJ] at hI
  refine W.exit (qsExit (qlExit (qbExit ?_)))
  refine qxRet (outP_ok (hI.symm)) ?_
  refine QB1.end tab [] trivial rfl rfl rfl rfl ?_ ?_
  · exact ⟨rfl, trivial⟩
  rfl
def nextJ (l : List UInt8) (c : UInt8) (i : Nat) : PE Bool :=
 if hereB l (skipB l i) = 44 then .ok true (skipB l i + 1) else match takeJ l c (skipB l i) with | .no a w => .no a w | .ok _ j => .ok false j
theorem next_fn (s : ByteArray) (c : UInt8) (i : Nat) (hi : i ≤ s.size) (hs : s.size ≤ 1000000000) : DoesE Tryd.prog 72 [.ptr 0 0, .d (.v (.int .u8 c.toNat))] [pbox s i] 0 (outP 57 s (fun b => .d (.v (.bool b))) (nextJ (bys s) c i)) := by
 have hle : skipB (bys s) i ≤ s.size := by have := skipB_le (l := bys s) (i := i) (by rw [bytes_len]; exact hi); rwa [bytes_len] at this
 refine DoesE.of_V tab (n := 18) (rs := [.tmp 4]) Tryd.func72 (by kernel_rfl) rfl Tryd.ntmps72 Tryd.results72 rfl (outP_len ..) fun C hC hG => ?_
 refine W.seq (W.region ?_)
 refine pE rfl ?_
 refine WO.nil (qs ?_)
 iterate 2 refine W.seq ?_
 refine W.region ?_
 refine pE rfl ?_
 refine callB [0] [] rfl rfl rfl rfl rfl ((peek_fn s i hi hs)) rfl rfl (by rfl) (by rfl) rfl rfl rfl rfl ?_
 refine pE rfl ?_
 refine WO.nil (qs ?_)
 refine condK rfl (fun h7 => ?_) (fun h7 => ?_)
 ·
  have q : hereB (bys s) (skipB (bys s) i) = 44 := UInt8.toNat_inj.1 (by show _ = 44; simp at h7; omega)
  have hg : nextJ (bys s) c i = .ok true (skipB (bys s) i + 1) := by unfold nextJ; rw [if_pos q]
  refine W.seq (W.region ?_)
  iterate 3 refine pE rfl ?_
  first | refine pE rfl ?_ | refine pR rfl rfl rfl rfl rfl ?_ | refine pB rfl rfl rfl rfl rfl rfl ?_
  refine pu (puI (ev tab rfl) (y := ((skipB (bys s) i + 1 : Nat) : Int)) (wrap64 (by omega))) rfl ?_
  iterate 2 refine pE rfl ?_
  refine storeR tab rfl rfl rfl rfl rfl rfl rfl rfl ?_
  refine WO.nil (qs (W.seq (W.region ?_)))
  refine pE rfl ?_
  refine WO.nil (qs (W.ret (qsRet ?_)))
  refine qxRet (outP_ok (hg)) ?_
  refine QB1.end tab [] trivial rfl rfl rfl rfl ?_ ?_
  · exact ⟨rfl, trivial⟩
  rfl
 ·
  have q : ¬ hereB (bys s) (skipB (bys s) i) = 44 := by intro q; rw [q] at h7; simp at h7
  have hg : nextJ (bys s) c i = match takeJ (bys s) c (skipB (bys s) i) with | .no a w => .no a w | .ok _ j => .ok false j := by unfold nextJ; rw [if_neg q]
  refine W.skip (qs (W.seq (W.region ?_)))
  iterate 2 refine pE rfl ?_
  cases hc17 : takeJ (bys s) c (skipB (bys s) i) with
  | no a17 w17 =>
   refine callP [0] [] rfl rfl rfl rfl rfl ((take_fn s c (skipB (bys s) i) hs).pan (outP_no hc17)) rfl rfl (by rfl) (fun st' => ?_)
   repeat' first | refine qsPan ?_ | refine qbPan ?_ | refine qlPan ?_ | refine qcPan ?_
   refine qxPan (outP_no (by rw [hg, hc17]))
  | ok y17 i17 =>
   refine callB [0] [] rfl rfl rfl rfl rfl ((take_fn s c (skipB (bys s) i) hs).ret (outP_ok hc17)) rfl rfl (by rfl) (by rfl) rfl rfl rfl rfl ?_
   refine WO.nil (qs (W.seq (W.region ?_)))
   refine pE rfl ?_
   refine WO.nil (qs (W.ret ?_))
   refine qxRet (outP_ok ((by rw [hg, hc17]))) ?_
   refine QB1.end tab [] trivial rfl rfl rfl rfl ?_ ?_
   · exact ⟨rfl, trivial⟩
   rfl
def digitJ (l : List UInt8) (i : Nat) : PE Nat := match hexV (hereB l i) with | some n => .ok n i | none => .no i 10
theorem orFin : ∀ n : Fin 256, IntKind.u8.wrap (((BitVec.ofInt IntKind.u8.bits (n.val : Int)) ||| BitVec.ofInt IntKind.u8.bits 32).toNat : Int) = (((UInt8.ofNat n.val) ||| 32).toNat : Int) := by decide +kernel
theorem or32 (b : UInt8) : IntKind.u8.wrap (((BitVec.ofInt IntKind.u8.bits (b.toNat : Int)) ||| BitVec.ofInt IntKind.u8.bits 32).toNat : Int) = ((b ||| 32).toNat : Int) := by
 have h := orFin ⟨b.toNat, b.toNat_lt⟩
 rw [h]
 simp
theorem digit_fn (s : ByteArray) (i : Nat) : DoesE Tryd.prog 81 [.ptr 0 0] [pbox s i] 0 (outP 57 s (fun n : Nat => .d (.v (.int .i64 (n : Int)))) (digitJ (bys s) i)) := by
 have hlt : (hereB (bys s) i).toNat < 256 := (hereB (bys s) i).toNat_lt
 have hlt2 : (hereB (bys s) i ||| 32).toNat < 256 := (hereB (bys s) i ||| 32).toNat_lt
 refine DoesE.of_V tab (n := 35) (rs := [.tmp 2]) Tryd.func81 (by kernel_rfl) rfl Tryd.ntmps81 Tryd.results81 rfl (outP_len ..) fun C hC hG => ?_
 refine W.seq (W.region ?_)
 refine pE rfl ?_
 refine WO.nil (qs ?_)
 iterate 2 refine W.seq ?_
 refine W.region ?_
 refine pE rfl ?_
 refine callB [0] [] rfl rfl rfl rfl rfl ((here_fn s i)) rfl rfl (by rfl) (by rfl) rfl rfl rfl rfl ?_
 refine pE rfl ?_
 refine WO.nil (qs (W.block (W.seq ?_)))
 apply regionB; (case hb => rfl)
 ·
  iterate 3 refine pE rfl ?_
  apply splitJ; (case hj => rfl); (case hl => rfl)
  ·
   refine goG rfl rfl ?_
   refine pE rfl ?_
   refine goG rfl rfl ?_
   iterate 3 refine pE rfl ?_
   refine WO.nil ?_
   refine qv1 rfl rfl rfl
  ·
   iterate 2 refine skipT rfl rfl rfl rfl ?_
   iterate 2 refine pE rfl ?_
   refine WO.nil ?_
   refine qv1 rfl rfl rfl
 refine qs ?_
 refine condK rfl (fun h6 => ?_) (fun h6 => ?_)
 ·
  have q : 48 ≤ (hereB (bys s) i).toNat ∧ (hereB (bys s) i).toNat ≤ 57 := by revert h6; simp; omega
  have hg : digitJ (bys s) i = .ok ((hereB (bys s) i).toNat - 48) i := by unfold digitJ hexV; rw [if_pos q]
  refine W.seq (W.region ?_)
  refine pE rfl ?_
  refine pu (puI (ev tab rfl) (y := (((hereB (bys s) i).toNat - 48 : Nat) : Int)) (Eq.trans (wrap_u8 (by omega)) (by omega))) rfl ?_
  refine pu (puI (ev tab rfl) (y := (((hereB (bys s) i).toNat - 48 : Nat) : Int)) (wrap64 (by omega))) rfl ?_
  refine pE rfl ?_
  refine WO.nil (qs (W.ret (qbRet (qsRet ?_))))
  refine qxRet (outP_ok (hg)) ?_
  refine QB1.end tab [] trivial rfl rfl rfl rfl ?_ ?_
  · exact ⟨rfl, trivial⟩
  rfl
 ·
  have q : ¬ (48 ≤ (hereB (bys s) i).toNat ∧ (hereB (bys s) i).toNat ≤ 57) := by revert h6; simp; omega
  refine W.seq ?_
  apply regionB; (case hb => rfl)
  ·
   refine pE rfl ?_
   refine pu (puI (ev tab rfl) (or32 (hereB (bys s) i))) rfl ?_
   iterate 2 refine pE rfl ?_
   apply splitJ; (case hj => rfl); (case hl => rfl)
   ·
    refine goG rfl rfl ?_
    refine pE rfl ?_
    refine goG rfl rfl ?_
    refine pu (puI (ev tab rfl) (or32 (hereB (bys s) i))) rfl ?_
    refine goG rfl rfl ?_
    iterate 3 refine pE rfl ?_
    refine WO.nil ?_
    refine qv1 rfl rfl rfl
   ·
    iterate 3 refine skipT rfl rfl rfl rfl ?_
    iterate 2 refine pE rfl ?_
    refine WO.nil ?_
    refine qv1 rfl rfl rfl
  refine qs ?_
  refine condK rfl (fun h16 => ?_) (fun h16 => ?_)
  ·
   have q2 : 97 ≤ (hereB (bys s) i ||| 32).toNat ∧ (hereB (bys s) i ||| 32).toNat ≤ 102 := by revert h16; simp only [Bool.cond_false_right, Bool.and_eq_true, decide_eq_true_eq]; omega
   have hg : digitJ (bys s) i = .ok ((hereB (bys s) i ||| 32).toNat - 97 + 10) i := by unfold digitJ hexV; rw [if_neg q, if_pos q2]
   refine W.seq (W.region ?_)
   refine pE rfl ?_
   refine pu (puI (ev tab rfl) (or32 (hereB (bys s) i))) rfl ?_
   refine pu (puI (ev tab rfl) (y := (((hereB (bys s) i ||| 32).toNat - 97 : Nat) : Int)) (Eq.trans (wrap_u8 (by omega)) (by omega))) rfl ?_
   refine pu (puI (ev tab rfl) (y := (((hereB (bys s) i ||| 32).toNat - 97 : Nat) : Int)) (wrap64 (by omega))) rfl ?_
   refine pu (puI (ev tab rfl) (y := (((hereB (bys s) i ||| 32).toNat - 97 + 10 : Nat) : Int)) (Eq.trans (wrap64 (by omega)) (by omega))) rfl ?_
   refine pE rfl ?_
   refine WO.nil (qs (W.ret (qbRet (qsRet ?_))))
   refine qxRet (outP_ok (hg)) ?_
   refine QB1.end tab [] trivial rfl rfl rfl rfl ?_ ?_
   · exact ⟨rfl, trivial⟩
   rfl
  ·
   have q2 : ¬ (97 ≤ (hereB (bys s) i ||| 32).toNat ∧ (hereB (bys s) i ||| 32).toNat ≤ 102) := by revert h16; simp only [Bool.cond_false_right, Bool.and_eq_false_iff, decide_eq_false_iff_not]; omega
   have hg : digitJ (bys s) i = .no i 10 := by unfold digitJ hexV; rw [if_neg q, if_neg q2]
   refine W.skip (qbN (qs (W.seq (W.region ?_))))
   iterate 3 refine pE rfl ?_
   first | refine pE rfl ?_ | refine pR rfl rfl rfl rfl rfl ?_ | refine pB rfl rfl rfl rfl rfl rfl ?_
   refine callP [] [] rfl rfl rfl rfl rfl (fails_fn i 10) rfl rfl (by rfl) (fun st' => ?_)
   repeat' first | refine qsPan ?_ | refine qbPan ?_ | refine qlPan ?_ | refine qcPan ?_
   exact qxPan (outP_no hg)
end Go.Proofs.YtllkpgnpioojjaaDoor
namespace Go.Proofs.YtllkpgnpioojjaaDoor
open Go.Ab Go.Tb
set_option maxRecDepth 10000
attribute [local irreducible] W WO Pu QS QB QL QF QV QV1 CH QE
def escR (l : List UInt8) (i : Nat) : PE UInt8 := match wordJ l [117, 48, 48] i with
 | .no a w => .no a w
 | .ok _ j => match digitJ l j with
  | .no a w => .no a w
  | .ok high j1 => if high = 1 ∨ 7 < high then .no j1 10 else match digitJ l (j1 + 1) with
   | .no a w => .no a w
   | .ok low j2 => if known (UInt8.ofNat (16 * high + low)) = false then .no j2 10 else .ok (UInt8.ofNat (16 * high + low)) (j2 + 1)
theorem u8_of {c : UInt8} {n : Nat} (hn : n < 256) (h : (c.toNat : Int) = (n : Int)) : c = UInt8.ofNat n := UInt8.toNat_inj.1 (by rw [UInt8.toNat_ofNat_of_lt' hn]; omega)
theorem esc_same {l : List UInt8} {i : Nat} (h : ((hereB l i).toNat : Int) = 34 ∨ ((hereB l i).toNat : Int) = 92 ∨ ((hereB l i).toNat : Int) = 47) : escJ l i = .ok (hereB l i) (i + 1) := by
 unfold escJ
 rw [if_pos]
 rcases h with h | h | h
 · exact .inl (u8_of (n := 34) (by decide) h)
 · exact .inr (.inl (u8_of (n := 92) (by decide) h))
 · exact .inr (.inr (u8_of (n := 47) (by decide) h))
theorem esc_n {l : List UInt8} {i : Nat} (h : ((hereB l i).toNat : Int) = 110) : escJ l i = .ok 10 (i + 1) := by
 have e := u8_of (n := 110) (by decide) h
 unfold escJ
 rw [e]; rfl
theorem esc_t {l : List UInt8} {i : Nat} (h : ((hereB l i).toNat : Int) = 116) : escJ l i = .ok 9 (i + 1) := by
 have e := u8_of (n := 116) (by decide) h
 unfold escJ
 rw [e]; rfl
theorem esc_rest {l : List UInt8} {i : Nat} (h1 : ¬ ((hereB l i).toNat : Int) = 34) (h2 : ¬ ((hereB l i).toNat : Int) = 92) (h3 : ¬ ((hereB l i).toNat : Int) = 47) (h4 : ¬ ((hereB l i).toNat : Int) = 110) (h5 : ¬ ((hereB l i).toNat : Int) = 116) : escJ l i = escR l i := by
 unfold escJ escR digitJ
 rw [if_neg (by rintro (e | e | e) <;> rw [e] at h1 h2 h3 <;> simp at h1 h2 h3), if_neg (by intro e; rw [e] at h4; simp at h4), if_neg (by intro e; rw [e] at h5; simp at h5)]
 cases wordJ l [117, 48, 48] i with
 | no a w => rfl
 | ok y j =>
  simp only
  cases hexV (hereB l j) with
  | none => rfl
  | some high =>
   simp only
   by_cases q : high = 1 ∨ 7 < high
   · rw [if_pos q, if_pos q]
   ·
    rw [if_neg q, if_neg q]
    cases hexV (hereB l (j + 1)) with
    | none => rfl
    | some low => rfl
theorem digit_ok {l : List UInt8} {i n j : Nat} (h : digitJ l i = .ok n j) : j = i ∧ n < 16 := by
 unfold digitJ at h
 cases hx : hexV (hereB l i) with
 | none => rw [hx] at h; cases h
 | some m =>
  rw [hx] at h
  cases h
  refine ⟨rfl, ?_⟩
  unfold hexV at hx
  split at hx
  · cases hx; omega
  ·
   split at hx
   · cases hx; omega
   · cases hx
theorem known8 {n : Nat} (h : n < 256) : ((UInt8.ofNat n).toNat : Int) = (n : Int) := by rw [UInt8.toNat_ofNat_of_lt' h]
theorem escape_fn (s : ByteArray) (i : Nat) (hi : i ≤ s.size) (hs : s.size ≤ 1000000000) : DoesE Tryd.prog 71 [.ptr 0 0] [pbox s i] 0 (outP 57 s (fun c : UInt8 => .d (.v (.int .u8 c.toNat))) (escJ (bys s) i)) := by
 have hwb := wordJ_bd (l := bys s) (x := [117, 48, 48]) (i := i) (by rw [bytes_len]; exact hi)
 refine DoesE.of_V tab (n := 83) (rs := [.tmp 2]) Tryd.func71 (by kernel_rfl) rfl Tryd.ntmps71 Tryd.results71 rfl (outP_len ..) fun C hC hG => ?_
 refine W.seq (W.region ?_)
 refine pE rfl ?_
 refine WO.nil (qs (W.seq (W.region ?_)))
 refine pE rfl ?_
 refine callB [0] [] rfl rfl rfl rfl rfl ((here_fn s i)) rfl rfl (by rfl) (by rfl) rfl rfl rfl rfl ?_
 refine pE rfl ?_
 refine WO.nil (qs ?_)
 iterate 2 refine W.seq ?_
 refine W.region ?_
 refine pE rfl ?_
 refine WO.nil (qs (W.block ?_))
 iterate 2 refine W.seq ?_
 refine W.region ?_
 iterate 2 refine pE rfl ?_
 refine WO.nil (qs ?_)
 refine condK rfl (fun h9 => ?_) (fun h9 => ?_)
 ·
  have hg : escJ (bys s) i = .ok (hereB (bys s) i) (i + 1) := esc_same (by have := of_decide_eq_true h9; omega)
  refine W.skip (qs ?_)
  refine W.condT rfl ?_
  refine W.seq (W.region ?_)
  iterate 3 refine pE rfl ?_
  first | refine pE rfl ?_ | refine pR rfl rfl rfl rfl rfl ?_ | refine pB rfl rfl rfl rfl rfl rfl ?_
  refine pu (puI (ev tab rfl) (y := ((i + 1 : Nat) : Int)) (wrap64 (by omega))) rfl ?_
  iterate 2 refine pE rfl ?_
  refine storeR tab rfl rfl rfl rfl rfl rfl rfl rfl ?_
  refine WO.nil (qs (W.seq (W.region ?_)))
  iterate 2 refine pE rfl ?_
  refine WO.nil (qs (W.ret (qbRet (qsRet ?_))))
  refine qxRet (outP_ok (hg)) ?_
  refine QB1.end tab [] trivial rfl rfl rfl rfl ?_ ?_
  · exact ⟨rfl, trivial⟩
  rfl
 ·
  refine W.seq (W.region ?_)
  iterate 2 refine pE rfl ?_
  refine WO.nil (qs ?_)
  refine condK rfl (fun h9 => ?_) (fun h9 => ?_)
  ·
   have hg : escJ (bys s) i = .ok (hereB (bys s) i) (i + 1) := esc_same (by have := of_decide_eq_true h9; omega)
   refine W.skip (qs ?_)
   refine W.condT rfl ?_
   refine W.seq (W.region ?_)
   iterate 3 refine pE rfl ?_
   first | refine pE rfl ?_ | refine pR rfl rfl rfl rfl rfl ?_ | refine pB rfl rfl rfl rfl rfl rfl ?_
   refine pu (puI (ev tab rfl) (y := ((i + 1 : Nat) : Int)) (wrap64 (by omega))) rfl ?_
   iterate 2 refine pE rfl ?_
   refine storeR tab rfl rfl rfl rfl rfl rfl rfl rfl ?_
   refine WO.nil (qs (W.seq (W.region ?_)))
   iterate 2 refine pE rfl ?_
   refine WO.nil (qs (W.ret (qbRet (qsRet ?_))))
   refine qxRet (outP_ok (hg)) ?_
   refine QB1.end tab [] trivial rfl rfl rfl rfl ?_ ?_
   · exact ⟨rfl, trivial⟩
   rfl
  ·
   refine W.region ?_
   iterate 2 refine pE rfl ?_
   refine WO.nil (qs ?_)
   refine condK rfl (fun h9 => ?_) (fun h9 => ?_)
   ·
    have hg : escJ (bys s) i = .ok (hereB (bys s) i) (i + 1) := esc_same (by have := of_decide_eq_true h9; omega)
    refine W.seq (W.region ?_)
    iterate 3 refine pE rfl ?_
    first | refine pE rfl ?_ | refine pR rfl rfl rfl rfl rfl ?_ | refine pB rfl rfl rfl rfl rfl rfl ?_
    refine pu (puI (ev tab rfl) (y := ((i + 1 : Nat) : Int)) (wrap64 (by omega))) rfl ?_
    iterate 2 refine pE rfl ?_
    refine storeR tab rfl rfl rfl rfl rfl rfl rfl rfl ?_
    refine WO.nil (qs (W.seq (W.region ?_)))
    iterate 2 refine pE rfl ?_
    refine WO.nil (qs (W.ret (qbRet (qsRet ?_))))
    refine qxRet (outP_ok (hg)) ?_
    refine QB1.end tab [] trivial rfl rfl rfl rfl ?_ ?_
    · exact ⟨rfl, trivial⟩
    rfl
   ·
    refine W.seq (W.region ?_)
    iterate 2 refine pE rfl ?_
    refine WO.nil (qs ?_)
    refine condK rfl (fun h21 => ?_) (fun h21 => ?_)
    ·
     have hg : escJ (bys s) i = .ok 10 (i + 1) := esc_n (of_decide_eq_true h21)
     refine W.seq (W.region ?_)
     iterate 3 refine pE rfl ?_
     first | refine pE rfl ?_ | refine pR rfl rfl rfl rfl rfl ?_ | refine pB rfl rfl rfl rfl rfl rfl ?_
     refine pu (puI (ev tab rfl) (y := ((i + 1 : Nat) : Int)) (wrap64 (by omega))) rfl ?_
     iterate 2 refine pE rfl ?_
     refine storeR tab rfl rfl rfl rfl rfl rfl rfl rfl ?_
     refine WO.nil (qs (W.seq (W.region ?_)))
     refine pE rfl ?_
     refine WO.nil (qs (W.ret (qbRet (qsRet ?_))))
     refine qxRet (outP_ok (hg)) ?_
     refine QB1.end tab [] trivial rfl rfl rfl rfl ?_ ?_
     · exact ⟨rfl, trivial⟩
     rfl
    ·
     refine W.seq (W.region ?_)
     iterate 2 refine pE rfl ?_
     refine WO.nil (qs ?_)
     refine condK rfl (fun h30 => ?_) (fun h30 => ?_)
     ·
      have hg : escJ (bys s) i = .ok 9 (i + 1) := esc_t (of_decide_eq_true h30)
      refine W.seq (W.region ?_)
      iterate 3 refine pE rfl ?_
      first | refine pE rfl ?_ | refine pR rfl rfl rfl rfl rfl ?_ | refine pB rfl rfl rfl rfl rfl rfl ?_
      refine pu (puI (ev tab rfl) (y := ((i + 1 : Nat) : Int)) (wrap64 (by omega))) rfl ?_
      iterate 2 refine pE rfl ?_
      refine storeR tab rfl rfl rfl rfl rfl rfl rfl rfl ?_
      refine WO.nil (qs (W.seq (W.region ?_)))
      refine pE rfl ?_
      refine WO.nil (qs (W.ret (qbRet (qsRet ?_))))
      refine qxRet (outP_ok (hg)) ?_
      refine QB1.end tab [] trivial rfl rfl rfl rfl ?_ ?_
      · exact ⟨rfl, trivial⟩
      rfl
     ·
      have hg : escJ (bys s) i = escR (bys s) i := esc_rest (by simp_all) (by simp_all) (by simp_all) (by simp_all) (by simp_all)
      unfold escR at hg
      refine W.skip (qbN (qs (W.seq (W.region ?_))))
      refine pE rfl ?_
      cases hc40 : wordJ (bys s) [117, 48, 48] i with
      | no a40 w40 =>
       refine callP [0] [] rfl rfl rfl rfl rfl ((word_fn s (B #[117, 48, 48]) i hs).pan (outP_no hc40)) rfl rfl (by rfl) (fun st' => ?_)
       repeat' first | refine qsPan ?_ | refine qbPan ?_ | refine qlPan ?_ | refine qcPan ?_
       refine qxPan (outP_no (by rw [hg, hc40]))
      | ok y40 i40 =>
       refine callB [0] [] rfl rfl rfl rfl rfl ((word_fn s (B #[117, 48, 48]) i hs).ret (outP_ok hc40)) rfl rfl (by rfl) (by rfl) rfl rfl rfl rfl ?_
       rw [hc40] at hg hwb
       rw [bytes_len] at hwb
       simp only at hg
       refine WO.nil (qs (W.seq (W.region ?_)))
       refine pE rfl ?_
       cases hc42 : digitJ (bys s) i40 with
       | no a42 w42 =>
        refine callP [0] [] rfl rfl rfl rfl rfl ((digit_fn s i40).pan (outP_no hc42)) rfl rfl (by rfl) (fun st' => ?_)
        repeat' first | refine qsPan ?_ | refine qbPan ?_ | refine qlPan ?_ | refine qcPan ?_
        refine qxPan (outP_no (by rw [hg, hc42]))
       | ok y42 i42 =>
        refine callB [0] [] rfl rfl rfl rfl rfl ((digit_fn s i40).ret (outP_ok hc42)) rfl rfl (by rfl) (by rfl) rfl rfl rfl rfl ?_
        rw [hc42] at hg
        simp only at hg
        obtain ⟨e42, l42⟩ := digit_ok hc42
        refine pE rfl ?_
        refine WO.nil (qs ?_)
        iterate 2 refine W.seq ?_
        apply regionB; (case hb => rfl)
        ·
         iterate 3 refine pE rfl ?_
         apply splitJ; (case hj => rfl); (case hl => rfl)
         ·
          iterate 2 refine skipT rfl rfl rfl rfl ?_
          refine pE rfl ?_
          refine WO.nil ?_
          refine qv1 rfl rfl rfl
         ·
          refine goG rfl rfl ?_
          refine pE rfl ?_
          refine goG rfl rfl ?_
          iterate 2 refine pE rfl ?_
          refine WO.nil ?_
          refine qv1 rfl rfl rfl
        refine qs ?_
        refine condK rfl (fun h48 => ?_) (fun h48 => ?_)
        ·
         have q : y42 = 1 ∨ 7 < y42 := by revert h48; simp; omega
         rw [if_pos q] at hg
         refine W.region ?_
         iterate 3 refine pE rfl ?_
         first | refine pE rfl ?_ | refine pR rfl rfl rfl rfl rfl ?_ | refine pB rfl rfl rfl rfl rfl rfl ?_
         refine callP [] [] rfl rfl rfl rfl rfl (fails_fn i42 10) rfl rfl (by rfl) (fun st' => ?_)
         repeat' first | refine qsPan ?_ | refine qbPan ?_ | refine qlPan ?_ | refine qcPan ?_
         exact qxPan (outP_no hg)
        ·
         have q : ¬ (y42 = 1 ∨ 7 < y42) := by revert h48; simp; omega
         rw [if_neg q] at hg
         refine W.skip (qs (W.seq (W.region ?_)))
         iterate 3 refine pE rfl ?_
         first | refine pE rfl ?_ | refine pR rfl rfl rfl rfl rfl ?_ | refine pB rfl rfl rfl rfl rfl rfl ?_
         refine pu (puI (ev tab rfl) (y := ((i42 + 1 : Nat) : Int)) (wrap64 (by omega))) rfl ?_
         iterate 2 refine pE rfl ?_
         refine storeR tab rfl rfl rfl rfl rfl rfl rfl rfl ?_
         refine WO.nil (qs (W.seq (W.region ?_)))
         refine pE rfl ?_
         refine pu (puI (ev tab rfl) (y := ((16 * y42 : Nat) : Int)) (Eq.trans (wrap64 (by omega)) (by omega))) rfl ?_
         refine pE rfl ?_
         cases hc64 : digitJ (bys s) (i42 + 1) with
         | no a64 w64 =>
          refine callP [0] [] rfl rfl rfl rfl rfl ((digit_fn s (i42 + 1)).pan (outP_no hc64)) rfl rfl (by rfl) (fun st' => ?_)
          repeat' first | refine qsPan ?_ | refine qbPan ?_ | refine qlPan ?_ | refine qcPan ?_
          refine qxPan (outP_no (by rw [hg, hc64]))
         | ok y64 i64 =>
          refine callB [0] [] rfl rfl rfl rfl rfl ((digit_fn s (i42 + 1)).ret (outP_ok hc64)) rfl rfl (by rfl) (by rfl) rfl rfl rfl rfl ?_
          rw [hc64] at hg
          simp only at hg
          obtain ⟨e64, l64⟩ := digit_ok hc64
          refine pu (puI (ev tab rfl) (y := ((16 * y42 + y64 : Nat) : Int)) (Eq.trans (wrap64 (by omega)) (by omega))) rfl ?_
          refine pu (puI (ev tab rfl) (y := ((UInt8.ofNat (16 * y42 + y64)).toNat : Int)) (Eq.trans (wrap_u8 (by omega)) (known8 (by omega)).symm)) rfl ?_
          refine pE rfl ?_
          refine WO.nil (qs ?_)
          iterate 2 refine W.seq ?_
          refine W.region ?_
          refine pE rfl ?_
          refine pu (puCall rfl rfl rfl (known_fn (UInt8.ofNat (16 * y42 + y64))) rfl) rfl ?_
          refine pE rfl ?_
          refine WO.nil (qs ?_)
          refine condK rfl (fun h69 => ?_) (fun h69 => ?_)
          ·
           have q2 : known (UInt8.ofNat (16 * y42 + y64)) = false := by simpa using h69
           rw [if_pos q2] at hg
           refine W.region ?_
           iterate 3 refine pE rfl ?_
           first | refine pE rfl ?_ | refine pR rfl rfl rfl rfl rfl ?_ | refine pB rfl rfl rfl rfl rfl rfl ?_
           refine callP [] [] rfl rfl rfl rfl rfl (fails_fn i64 10) rfl rfl (by rfl) (fun st' => ?_)
           repeat' first | refine qsPan ?_ | refine qbPan ?_ | refine qlPan ?_ | refine qcPan ?_
           exact qxPan (outP_no hg)
          ·
           have q2 : ¬ known (UInt8.ofNat (16 * y42 + y64)) = false := by simpa using h69
           rw [if_neg q2] at hg
           refine W.skip (qs (W.seq (W.region ?_)))
           iterate 3 refine pE rfl ?_
           first | refine pE rfl ?_ | refine pR rfl rfl rfl rfl rfl ?_ | refine pB rfl rfl rfl rfl rfl rfl ?_
           refine pu (puI (ev tab rfl) (y := ((i64 + 1 : Nat) : Int)) (wrap64 (by omega))) rfl ?_
           iterate 2 refine pE rfl ?_
           refine storeR tab rfl rfl rfl rfl rfl rfl rfl rfl ?_
           refine WO.nil (qs (W.seq (W.region ?_)))
           iterate 2 refine pE rfl ?_
           refine WO.nil (qs (W.ret ?_))
           refine qxRet (outP_ok (hg)) ?_
           refine QB1.end tab [] trivial rfl rfl rfl rfl ?_ ?_
           · exact ⟨rfl, trivial⟩
           rfl
end Go.Proofs.YtllkpgnpioojjaaDoor
namespace Go.Proofs.YtllkpgnpioojjaaDoor
open Go.Ab Go.Tb
set_option maxRecDepth 10000
attribute [local irreducible] W WO Pu QS QB QL QF QV QV1 CH QE
def textAt (l : List UInt8) (i j : Nat) : ByteArray := ⟨((l.drop i).take (j - i)).toArray⟩
def numU (l : List UInt8) (i j : Nat) (u : ByteArray) : PE JV := if (numP u).2 = true then .ok (.mk 3 (numP u).1 (B #[]) [] []) j else .no i 2
def numK (l : List UInt8) (i i1 j : Nat) : PE JV := if j = i1 then .no i1 10 else numU l i j (if textAt l i j = B #[45, 48] then B #[48] else textAt l i j)
theorem num_neg {l : List UInt8} {i : Nat} (h : hereB l i = 45) : numJ l i = numK l i (i + 1) (digsJ l (i + 1)) := by unfold numJ numK numU textAt; rw [if_pos h]
theorem num_pos {l : List UInt8} {i : Nat} (h : ¬ hereB l i = 45) : numJ l i = numK l i i (digsJ l i) := by unfold numJ numK numU textAt; rw [if_neg h]
theorem extr (s : ByteArray) (i j : Nat) : s.extract i j = textAt (bys s) i j := by
 refine bys_inj ?_
 show bys _ = _
 rw [Go.Tb.bys_extract]
 unfold textAt
 simp [List.drop_take]
theorem dig_iff (b : UInt8) : isDig b = true ↔ 48 ≤ b.toNat ∧ b.toNat ≤ 57 := by unfold isDig; simp
theorem runD_stop {l : List UInt8} {k j : Nat} (h : isDig (hereB l j) = false) : runD l k j = j := by cases k <;> simp [runD, h]
theorem runD_step {l : List UInt8} {j : Nat} (hj : j < l.length) (h : isDig (hereB l j) = true) : runD l (l.length - j) j = runD l (l.length - (j + 1)) (j + 1) := by
 rw [show l.length - j = (l.length - (j + 1)) + 1 by omega, runD, if_pos ⟨hj, h⟩]
theorem number_neg (s : ByteArray) (i : Nat) (hi : i ≤ s.size) (hs : s.size ≤ 1000000000) (hm : hereB (bys s) i = 45) : DoesE Tryd.prog 54 [.ptr 0 0] [pbox s i] 0 (outP 57 s (fun v : JV => .ag v.c) (numJ (bys s) i)) := by
 have hK := num_neg (l := bys s) (i := i) hm
 have hil : i < s.size := by
  have := here_lt (l := bys s) (i := i) (by rw [hm]; decide)
  rwa [bytes_len] at this
 have hdb := digsJ_bd (l := bys s) (i := i + 1) (by rw [bytes_len]; omega)
 rw [bytes_len] at hdb
 refine DoesE.of_V tab (n := 85) (rs := [.cell 2 26]) Tryd.func54 (by kernel_rfl) rfl Tryd.ntmps54 Tryd.results54 rfl (outP_len ..) fun C hC hG => ?_
 refine W.seq (W.region ?_)
 refine allocR tab rfl rfl rfl ?_
 refine WO.nil (qs (W.seq (W.region ?_)))
 iterate 3 refine pE rfl ?_
 first | refine pE rfl ?_ | refine pR rfl rfl rfl rfl rfl ?_ | refine pB rfl rfl rfl rfl rfl rfl ?_
 refine pE rfl ?_
 refine WO.nil (qs ?_)
 iterate 2 refine W.seq ?_
 refine W.region ?_
 refine pE rfl ?_
 refine callB [0] [] rfl rfl rfl rfl rfl ((here_fn s i)) rfl rfl (by rfl) (by rfl) rfl rfl rfl rfl ?_
 refine pE rfl ?_
 refine WO.nil (qs ?_)
 refine condK rfl (fun h15 => ?_) (fun h15 => ?_)
 ·
  refine W.region ?_
  iterate 3 refine pE rfl ?_
  first | refine pE rfl ?_ | refine pR rfl rfl rfl rfl rfl ?_ | refine pB rfl rfl rfl rfl rfl rfl ?_
  refine pu (puI (ev tab rfl) (y := ((i + 1 : Nat) : Int)) (wrap64 (by omega))) rfl ?_
  iterate 2 refine pE rfl ?_
  refine storeR tab rfl rfl rfl rfl rfl rfl rfl rfl ?_
  refine WO.nil (qs (W.seq (W.region ?_)))
  iterate 3 refine pE rfl ?_
  first | refine pE rfl ?_ | refine pR rfl rfl rfl rfl rfl ?_ | refine pB rfl rfl rfl rfl rfl rfl ?_
  refine pE rfl ?_
  refine WO.nil (qs ?_)
  iterate 2 refine W.seq ?_
  refine W.region ?_
  refine pE rfl ?_
  refine callB [0] [] rfl rfl rfl rfl rfl ((here_fn s (i + 1))) rfl rfl (by rfl) (by rfl) rfl rfl rfl rfl ?_
  refine pE rfl ?_
  refine WO.nil (qs (W.block ?_))
  refine W.loopR (ι := {x : Nat // match x with | j => (i + 1) ≤ j ∧ j ≤ s.size ∧ (j = (i + 1) ∨ hereB (bys s) (i + 1) ≠ 48) ∧ (hereB (bys s) (i + 1) ≠ 48 → runD (bys s) ((bys s).length - j) j = runD (bys s) ((bys s).length - (i + 1)) (i + 1))})
   (fun x => match x.1 with | j => [(0, .ptr 0 0), (2, .ptr 1 0), (5, .d (.v (.int .u8 (hereB (bys s) j).toNat)))]) [(3, _), (4, _)]
   (fun x => match x.1 with | j => [(0, [.d (cs s), .d (.v (.int .i64 (j : Int)))])]) [(1, _)] [] 2 (fun x => match x.1 with | j => s.size - j)
   [0, 1] ⟨(i + 1), ?_⟩ rfl ?_ ⟨rfl, rfl, rfl, rfl, trivial⟩ ?_ ⟨rfl, rfl, trivial⟩ rfl ?_
  · exact ⟨Nat.le_refl _, hil, .inl rfl, fun _ => rfl⟩
  · repeat' first | exact trivial | refine ⟨rfl, ?_⟩ | refine ⟨congrArg some (renL_boxE _ _ _), ?_⟩ | refine ⟨step_nat (by assumption) (by assumption), ?_⟩
  · repeat' first | exact trivial | refine ⟨rfl, ?_⟩ | refine ⟨congrArg some (renL_boxE _ _ _), ?_⟩ | refine ⟨step_nat (by assumption) (by assumption), ?_⟩
  rintro ⟨j, hj1, hj2, hj3, hj4⟩
  show W _ _ _ _ _ ⟨[(0, .ptr 0 0), (2, .ptr 1 0), (5, .d (.v (.int .u8 (hereB (bys s) j).toNat))), (3, _), (4, _)], [(0, [.d (cs s), .d (.v (.int .i64 (j : Int)))]), (1, _)], [], 2⟩
  iterate 2 refine W.seq ?_
  apply regionB; (case hb => rfl)
  ·
   iterate 3 refine pE rfl ?_
   apply splitH; (case hj => rfl); (case hl => rfl)
   ·
    intro g31
    refine goG rfl rfl ?_
    refine pE rfl ?_
    refine goG rfl rfl ?_
    iterate 2 refine pE rfl ?_
    refine WO.nil ?_
    refine qv1 rfl rfl rfl
   ·
    intro g31
    iterate 2 refine skipT rfl rfl rfl rfl ?_
    refine pE rfl ?_
    refine WO.nil ?_
    refine qv1 rfl rfl rfl
  refine qs ?_
  refine condK rfl (fun h34 => ?_) (fun h34 => ?_)
  ·
   have hd : isDig (hereB (bys s) j) = true := by rw [dig_iff]; revert h34; simp; omega
   have hjs : j < s.size := by
    have := here_lt (l := bys s) (i := j) (by intro q; rw [q] at hd; exact absurd hd (by decide))
    rwa [bytes_len] at this
   refine W.skip (qs (W.seq (W.block (W.seq (W.region ?_)))))
   iterate 3 refine pE rfl ?_
   first | refine pE rfl ?_ | refine pR rfl rfl rfl rfl rfl ?_ | refine pB rfl rfl rfl rfl rfl rfl ?_
   refine pu (puI (ev tab rfl) (y := ((j + 1 : Nat) : Int)) (wrap64 (by omega))) rfl ?_
   iterate 2 refine pE rfl ?_
   refine storeR tab rfl rfl rfl rfl rfl rfl rfl rfl ?_
   refine WO.nil (qs (W.seq (W.region ?_)))
   iterate 3 refine pE rfl ?_
   first | refine pE rfl ?_ | refine pR rfl rfl rfl rfl rfl ?_ | refine pB rfl rfl rfl rfl rfl rfl ?_
   refine pE rfl ?_
   refine pu (indexStr tab rfl rfl rfl rfl (Int.natCast_nonneg _) (byteList (here_at (s := s) (i := (i + 1)) (by omega)))) rfl ?_
   refine pE rfl ?_
   refine WO.nil (qs ?_)
   refine condK rfl (fun h50 => ?_) (fun h50 => ?_)
   ·
    have h48 : hereB (bys s) (i + 1) = 48 := u8_of (n := 48) (by decide) (of_decide_eq_true h50)
    have hE : j + 1 = digsJ (bys s) (i + 1) := by
     unfold digsJ; rw [if_pos h48]
     rcases hj3 with e | e
     · rw [e]
     · exact absurd h48 e
    rw [hE]
    refine W.exit ?_
    refine qbExit' rfl ?_
    refine qsExit (qlExit (qbExit (qs ?_)))
    iterate 2 refine W.seq ?_
    refine W.region ?_
    iterate 3 refine pE rfl ?_
    first | refine pE rfl ?_ | refine pR rfl rfl rfl rfl rfl ?_ | refine pB rfl rfl rfl rfl rfl rfl ?_
    iterate 2 refine pE rfl ?_
    refine WO.nil (qs ?_)
    refine condK rfl (fun h56 => ?_) (fun h56 => ?_)
    ·
     have q : digsJ (bys s) (i + 1) = (i + 1) := by have := of_decide_eq_true h56; omega
     have hg : numJ (bys s) i = .no (digsJ (bys s) (i + 1)) 10 := by rw [hK]; unfold numK; rw [if_pos q, q]
     refine W.region ?_
     iterate 3 refine pE rfl ?_
     first | refine pE rfl ?_ | refine pR rfl rfl rfl rfl rfl ?_ | refine pB rfl rfl rfl rfl rfl rfl ?_
     refine callP [] [] rfl rfl rfl rfl rfl (fails_fn (digsJ (bys s) (i + 1)) 10) rfl rfl (by rfl) (fun st' => ?_)
     repeat' first | refine qsPan ?_ | refine qbPan ?_ | refine qlPan ?_ | refine qcPan ?_
     exact qxPan (outP_no hg)
    ·
     have q : ¬ digsJ (bys s) (i + 1) = (i + 1) := by have := of_decide_eq_false h56; omega
     unfold numK at hK
     rw [if_neg q] at hK
     refine W.skip (qs (W.seq ?_))
     refine W.regionD tab (by kernel_rfl) ?_
     iterate 3 refine chPu (ev tab rfl) rfl ?_
     first | refine chPu (ev tab rfl) rfl ?_ | refine chPu (loadRow tab rfl rfl rfl rfl) rfl ?_ | refine chPu (loadBox tab rfl rfl rfl rfl rfl) rfl ?_
     iterate 4 refine chPu (ev tab rfl) rfl ?_
     first | refine chPu (ev tab rfl) rfl ?_ | refine chPu (loadRow tab rfl rfl rfl rfl) rfl ?_ | refine chPu (loadBox tab rfl rfl rfl rfl rfl) rfl ?_
     refine chPu (puS (strPart (l := (i : Int)) (h := ((digsJ (bys s) (i + 1) : Nat) : Int)) tab rfl rfl rfl rfl rfl (by omega) (by omega) (by omega)) (show _ = textAt (bys s) i (digsJ (bys s) (i + 1)) from extr s i _)) rfl ?_
     refine chPu (ev tab rfl) rfl ?_
     refine CH.nil ?_
     refine qs ?_
     iterate 2 refine W.seq ?_
     refine W.region ?_
     iterate 2 refine pE rfl ?_
     refine WO.nil (qs ?_)
     refine condK rfl (fun h73 => ?_) (fun h73 => ?_)
     ·
      have hg := hK
      rw [if_pos (of_decide_eq_true h73)] at hg
      refine W.region ?_
      refine pE rfl ?_
      refine WO.nil (qs (W.seq (W.region ?_)))
      refine pE rfl ?_
      refine pu (puCall rfl rfl rfl (nparse_fn _ (by first | (rw [show (B #[48]).size = 1 from rfl]; omega) | (rw [← extr, ByteArray.size_extract]; omega))) rfl) rfl ?_
      iterate 5 refine pE rfl ?_
      refine WO.nil (qs ?_)
      iterate 2 refine W.seq ?_
      refine W.region ?_
      iterate 2 refine pE rfl ?_
      refine WO.nil (qs ?_)
      refine condK rfl (fun h80 => ?_) (fun h80 => ?_)
      ·
       have hg2 : numJ (bys s) i = .no i 2 := by rw [hg]; unfold numU; rw [if_neg (by simpa using h80)]
       refine W.region ?_
       refine pE rfl ?_
       refine callP [] [] rfl rfl rfl rfl rfl (fails_fn i 2) rfl rfl (by rfl) (fun st' => ?_)
       repeat' first | refine qsPan ?_ | refine qbPan ?_ | refine qlPan ?_ | refine qcPan ?_
       exact qxPan (outP_no hg2)
      ·
       have hg2 := hg
       unfold numU at hg2
       rw [if_pos (by simpa using h80)] at hg2
       refine W.skip (qs (W.seq (W.region ?_)))
       refine pE rfl ?_
       refine pu (build tab rfl rfl rfl rfl) rfl ?_
       try refine nilO 84 rfl rfl rfl ?_
       refine storeR tab rfl rfl rfl rfl rfl rfl rfl rfl ?_
       refine WO.nil (qs (W.ret ?_))
       refine qxRet (outP_ok (hg2)) ?_
       refine QB1.end tab [] trivial rfl rfl rfl rfl ?_ ?_
       · exact ⟨rfl, trivial⟩
       rfl
     ·
      have hg := hK
      rw [if_neg (of_decide_eq_false h73)] at hg
      refine W.skip (qs (W.seq (W.region ?_)))
      refine pE rfl ?_
      refine pu (puCall rfl rfl rfl (nparse_fn _ (by first | (rw [show (B #[48]).size = 1 from rfl]; omega) | (rw [← extr, ByteArray.size_extract]; omega))) rfl) rfl ?_
      iterate 5 refine pE rfl ?_
      refine WO.nil (qs ?_)
      iterate 2 refine W.seq ?_
      refine W.region ?_
      iterate 2 refine pE rfl ?_
      refine WO.nil (qs ?_)
      refine condK rfl (fun h80 => ?_) (fun h80 => ?_)
      ·
       have hg2 : numJ (bys s) i = .no i 2 := by rw [hg]; unfold numU; rw [if_neg (by simpa using h80)]
       refine W.region ?_
       refine pE rfl ?_
       refine callP [] [] rfl rfl rfl rfl rfl (fails_fn i 2) rfl rfl (by rfl) (fun st' => ?_)
       repeat' first | refine qsPan ?_ | refine qbPan ?_ | refine qlPan ?_ | refine qcPan ?_
       exact qxPan (outP_no hg2)
      ·
       have hg2 := hg
       unfold numU at hg2
       rw [if_pos (by simpa using h80)] at hg2
       refine W.skip (qs (W.seq (W.region ?_)))
       refine pE rfl ?_
       refine pu (build tab rfl rfl rfl rfl) rfl ?_
       try refine nilO 84 rfl rfl rfl ?_
       refine storeR tab rfl rfl rfl rfl rfl rfl rfl rfl ?_
       refine WO.nil (qs (W.ret ?_))
       refine qxRet (outP_ok (hg2)) ?_
       refine QB1.end tab [] trivial rfl rfl rfl rfl ?_ ?_
       · exact ⟨rfl, trivial⟩
       rfl
   ·
    have h48 : hereB (bys s) (i + 1) ≠ 48 := by intro q; rw [q] at h50; simp at h50
    refine W.skip (qbN (qs (W.region ?_)))
    refine pE rfl ?_
    refine callB [0] [] rfl rfl rfl rfl rfl ((here_fn s (j + 1))) rfl rfl (by rfl) (by rfl) rfl rfl rfl rfl ?_
    refine pE rfl ?_
    refine WO.nil ?_
    refine W.endR [0, 1] ⟨j + 1, ?_⟩ ?_ rfl ?_ ⟨rfl, rfl, rfl, rfl, trivial⟩ ?_ ⟨rfl, rfl, trivial⟩ rfl
    · exact ⟨by omega, by omega, .inr h48, fun q => by rw [← hj4 q, runD_step (by rw [bytes_len]; exact hjs) hd]⟩
    · dsimp only; omega
    · repeat' first | exact trivial | refine ⟨rfl, ?_⟩ | refine ⟨congrArg some (renL_boxE _ _ _), ?_⟩ | refine ⟨step_nat (by assumption) (by assumption), ?_⟩
    · repeat' first | exact trivial | refine ⟨rfl, ?_⟩ | refine ⟨congrArg some (renL_boxE _ _ _), ?_⟩ | refine ⟨step_nat (by assumption) (by assumption), ?_⟩
  ·
   have hd : isDig (hereB (bys s) j) = false := by
    cases q : isDig (hereB (bys s) j) with
    | false => rfl
    | true => rw [dig_iff] at q; revert h34; simp; omega
   have h48 : hereB (bys s) (i + 1) ≠ 48 := by
    rcases hj3 with e | e
    · rw [← e]; intro q; rw [q] at hd; exact absurd hd (by decide)
    · exact e
   have hE : digsJ (bys s) (i + 1) = j := by unfold digsJ; rw [if_neg h48, ← hj4 h48, runD_stop hd]
   subst hE
   refine W.exit (qsExit (qlExit (qbExit (qs ?_))))
   iterate 2 refine W.seq ?_
   refine W.region ?_
   iterate 3 refine pE rfl ?_
   first | refine pE rfl ?_ | refine pR rfl rfl rfl rfl rfl ?_ | refine pB rfl rfl rfl rfl rfl rfl ?_
   iterate 2 refine pE rfl ?_
   refine WO.nil (qs ?_)
   refine condK rfl (fun h56 => ?_) (fun h56 => ?_)
   ·
    have q : digsJ (bys s) (i + 1) = (i + 1) := by have := of_decide_eq_true h56; omega
    have hg : numJ (bys s) i = .no (digsJ (bys s) (i + 1)) 10 := by rw [hK]; unfold numK; rw [if_pos q, q]
    refine W.region ?_
    iterate 3 refine pE rfl ?_
    first | refine pE rfl ?_ | refine pR rfl rfl rfl rfl rfl ?_ | refine pB rfl rfl rfl rfl rfl rfl ?_
    refine callP [] [] rfl rfl rfl rfl rfl (fails_fn (digsJ (bys s) (i + 1)) 10) rfl rfl (by rfl) (fun st' => ?_)
    repeat' first | refine qsPan ?_ | refine qbPan ?_ | refine qlPan ?_ | refine qcPan ?_
    exact qxPan (outP_no hg)
   ·
    have q : ¬ digsJ (bys s) (i + 1) = (i + 1) := by have := of_decide_eq_false h56; omega
    unfold numK at hK
    rw [if_neg q] at hK
    refine W.skip (qs (W.seq ?_))
    refine W.regionD tab (by kernel_rfl) ?_
    iterate 3 refine chPu (ev tab rfl) rfl ?_
    first | refine chPu (ev tab rfl) rfl ?_ | refine chPu (loadRow tab rfl rfl rfl rfl) rfl ?_ | refine chPu (loadBox tab rfl rfl rfl rfl rfl) rfl ?_
    iterate 4 refine chPu (ev tab rfl) rfl ?_
    first | refine chPu (ev tab rfl) rfl ?_ | refine chPu (loadRow tab rfl rfl rfl rfl) rfl ?_ | refine chPu (loadBox tab rfl rfl rfl rfl rfl) rfl ?_
    refine chPu (puS (strPart (l := (i : Int)) (h := ((digsJ (bys s) (i + 1) : Nat) : Int)) tab rfl rfl rfl rfl rfl (by omega) (by omega) (by omega)) (show _ = textAt (bys s) i (digsJ (bys s) (i + 1)) from extr s i _)) rfl ?_
    refine chPu (ev tab rfl) rfl ?_
    refine CH.nil ?_
    refine qs ?_
    iterate 2 refine W.seq ?_
    refine W.region ?_
    iterate 2 refine pE rfl ?_
    refine WO.nil (qs ?_)
    refine condK rfl (fun h73 => ?_) (fun h73 => ?_)
    ·
     have hg := hK
     rw [if_pos (of_decide_eq_true h73)] at hg
     refine W.region ?_
     refine pE rfl ?_
     refine WO.nil (qs (W.seq (W.region ?_)))
     refine pE rfl ?_
     refine pu (puCall rfl rfl rfl (nparse_fn _ (by first | (rw [show (B #[48]).size = 1 from rfl]; omega) | (rw [← extr, ByteArray.size_extract]; omega))) rfl) rfl ?_
     iterate 5 refine pE rfl ?_
     refine WO.nil (qs ?_)
     iterate 2 refine W.seq ?_
     refine W.region ?_
     iterate 2 refine pE rfl ?_
     refine WO.nil (qs ?_)
     refine condK rfl (fun h80 => ?_) (fun h80 => ?_)
     ·
      have hg2 : numJ (bys s) i = .no i 2 := by rw [hg]; unfold numU; rw [if_neg (by simpa using h80)]
      refine W.region ?_
      refine pE rfl ?_
      refine callP [] [] rfl rfl rfl rfl rfl (fails_fn i 2) rfl rfl (by rfl) (fun st' => ?_)
      repeat' first | refine qsPan ?_ | refine qbPan ?_ | refine qlPan ?_ | refine qcPan ?_
      exact qxPan (outP_no hg2)
     ·
      have hg2 := hg
      unfold numU at hg2
      rw [if_pos (by simpa using h80)] at hg2
      refine W.skip (qs (W.seq (W.region ?_)))
      refine pE rfl ?_
      refine pu (build tab rfl rfl rfl rfl) rfl ?_
      try refine nilO 84 rfl rfl rfl ?_
      refine storeR tab rfl rfl rfl rfl rfl rfl rfl rfl ?_
      refine WO.nil (qs (W.ret ?_))
      refine qxRet (outP_ok (hg2)) ?_
      refine QB1.end tab [] trivial rfl rfl rfl rfl ?_ ?_
      · exact ⟨rfl, trivial⟩
      rfl
    ·
     have hg := hK
     rw [if_neg (of_decide_eq_false h73)] at hg
     refine W.skip (qs (W.seq (W.region ?_)))
     refine pE rfl ?_
     refine pu (puCall rfl rfl rfl (nparse_fn _ (by first | (rw [show (B #[48]).size = 1 from rfl]; omega) | (rw [← extr, ByteArray.size_extract]; omega))) rfl) rfl ?_
     iterate 5 refine pE rfl ?_
     refine WO.nil (qs ?_)
     iterate 2 refine W.seq ?_
     refine W.region ?_
     iterate 2 refine pE rfl ?_
     refine WO.nil (qs ?_)
     refine condK rfl (fun h80 => ?_) (fun h80 => ?_)
     ·
      have hg2 : numJ (bys s) i = .no i 2 := by rw [hg]; unfold numU; rw [if_neg (by simpa using h80)]
      refine W.region ?_
      refine pE rfl ?_
      refine callP [] [] rfl rfl rfl rfl rfl (fails_fn i 2) rfl rfl (by rfl) (fun st' => ?_)
      repeat' first | refine qsPan ?_ | refine qbPan ?_ | refine qlPan ?_ | refine qcPan ?_
      exact qxPan (outP_no hg2)
     ·
      have hg2 := hg
      unfold numU at hg2
      rw [if_pos (by simpa using h80)] at hg2
      refine W.skip (qs (W.seq (W.region ?_)))
      refine pE rfl ?_
      refine pu (build tab rfl rfl rfl rfl) rfl ?_
      try refine nilO 84 rfl rfl rfl ?_
      refine storeR tab rfl rfl rfl rfl rfl rfl rfl rfl ?_
      refine WO.nil (qs (W.ret ?_))
      refine qxRet (outP_ok (hg2)) ?_
      refine QB1.end tab [] trivial rfl rfl rfl rfl ?_ ?_
      · exact ⟨rfl, trivial⟩
      rfl
 ·
  exfalso; rw [hm] at h15; simp at h15
theorem number_pos (s : ByteArray) (i : Nat) (hi : i ≤ s.size) (hs : s.size ≤ 1000000000) (hm : ¬ hereB (bys s) i = 45) : DoesE Tryd.prog 54 [.ptr 0 0] [pbox s i] 0 (outP 57 s (fun v : JV => .ag v.c) (numJ (bys s) i)) := by
 have hK := num_pos (l := bys s) (i := i) hm
 have hdb := digsJ_bd (l := bys s) (i := i) (by rw [bytes_len]; omega)
 rw [bytes_len] at hdb
 refine DoesE.of_V tab (n := 85) (rs := [.cell 2 26]) Tryd.func54 (by kernel_rfl) rfl Tryd.ntmps54 Tryd.results54 rfl (outP_len ..) fun C hC hG => ?_
 refine W.seq (W.region ?_)
 refine allocR tab rfl rfl rfl ?_
 refine WO.nil (qs (W.seq (W.region ?_)))
 iterate 3 refine pE rfl ?_
 first | refine pE rfl ?_ | refine pR rfl rfl rfl rfl rfl ?_ | refine pB rfl rfl rfl rfl rfl rfl ?_
 refine pE rfl ?_
 refine WO.nil (qs ?_)
 iterate 2 refine W.seq ?_
 refine W.region ?_
 refine pE rfl ?_
 refine callB [0] [] rfl rfl rfl rfl rfl ((here_fn s i)) rfl rfl (by rfl) (by rfl) rfl rfl rfl rfl ?_
 refine pE rfl ?_
 refine WO.nil (qs ?_)
 refine condK rfl (fun h15 => ?_) (fun h15 => ?_)
 ·
  exfalso; exact hm (u8_of (n := 45) (by decide) (of_decide_eq_true h15))
 ·
  refine W.skip (qs (W.seq (W.region ?_)))
  iterate 3 refine pE rfl ?_
  first | refine pE rfl ?_ | refine pR rfl rfl rfl rfl rfl ?_ | refine pB rfl rfl rfl rfl rfl rfl ?_
  refine pE rfl ?_
  refine WO.nil (qs ?_)
  iterate 2 refine W.seq ?_
  refine W.region ?_
  refine pE rfl ?_
  refine callB [0] [] rfl rfl rfl rfl rfl ((here_fn s i)) rfl rfl (by rfl) (by rfl) rfl rfl rfl rfl ?_
  refine pE rfl ?_
  refine WO.nil (qs (W.block ?_))
  refine W.loopR (ι := {x : Nat // match x with | j => i ≤ j ∧ j ≤ s.size ∧ (j = i ∨ hereB (bys s) i ≠ 48) ∧ (hereB (bys s) i ≠ 48 → runD (bys s) ((bys s).length - j) j = runD (bys s) ((bys s).length - i) i)})
   (fun x => match x.1 with | j => [(0, .ptr 0 0), (2, .ptr 1 0), (5, .d (.v (.int .u8 (hereB (bys s) j).toNat)))]) [(3, _), (4, _)]
   (fun x => match x.1 with | j => [(0, [.d (cs s), .d (.v (.int .i64 (j : Int)))])]) [(1, _)] [] 2 (fun x => match x.1 with | j => s.size - j)
   [0, 1] ⟨i, ?_⟩ rfl ?_ ⟨rfl, rfl, rfl, rfl, trivial⟩ ?_ ⟨rfl, rfl, trivial⟩ rfl ?_
  · exact ⟨Nat.le_refl _, hi, .inl rfl, fun _ => rfl⟩
  · repeat' first | exact trivial | refine ⟨rfl, ?_⟩ | refine ⟨congrArg some (renL_boxE _ _ _), ?_⟩ | refine ⟨step_nat (by assumption) (by assumption), ?_⟩
  · repeat' first | exact trivial | refine ⟨rfl, ?_⟩ | refine ⟨congrArg some (renL_boxE _ _ _), ?_⟩ | refine ⟨step_nat (by assumption) (by assumption), ?_⟩
  rintro ⟨j, hj1, hj2, hj3, hj4⟩
  show W _ _ _ _ _ ⟨[(0, .ptr 0 0), (2, .ptr 1 0), (5, .d (.v (.int .u8 (hereB (bys s) j).toNat))), (3, _), (4, _)], [(0, [.d (cs s), .d (.v (.int .i64 (j : Int)))]), (1, _)], [], 2⟩
  iterate 2 refine W.seq ?_
  apply regionB; (case hb => rfl)
  ·
   iterate 3 refine pE rfl ?_
   apply splitH; (case hj => rfl); (case hl => rfl)
   ·
    intro g31
    refine goG rfl rfl ?_
    refine pE rfl ?_
    refine goG rfl rfl ?_
    iterate 2 refine pE rfl ?_
    refine WO.nil ?_
    refine qv1 rfl rfl rfl
   ·
    intro g31
    iterate 2 refine skipT rfl rfl rfl rfl ?_
    refine pE rfl ?_
    refine WO.nil ?_
    refine qv1 rfl rfl rfl
  refine qs ?_
  refine condK rfl (fun h34 => ?_) (fun h34 => ?_)
  ·
   have hd : isDig (hereB (bys s) j) = true := by rw [dig_iff]; revert h34; simp; omega
   have hjs : j < s.size := by
    have := here_lt (l := bys s) (i := j) (by intro q; rw [q] at hd; exact absurd hd (by decide))
    rwa [bytes_len] at this
   refine W.skip (qs (W.seq (W.block (W.seq (W.region ?_)))))
   iterate 3 refine pE rfl ?_
   first | refine pE rfl ?_ | refine pR rfl rfl rfl rfl rfl ?_ | refine pB rfl rfl rfl rfl rfl rfl ?_
   refine pu (puI (ev tab rfl) (y := ((j + 1 : Nat) : Int)) (wrap64 (by omega))) rfl ?_
   iterate 2 refine pE rfl ?_
   refine storeR tab rfl rfl rfl rfl rfl rfl rfl rfl ?_
   refine WO.nil (qs (W.seq (W.region ?_)))
   iterate 3 refine pE rfl ?_
   first | refine pE rfl ?_ | refine pR rfl rfl rfl rfl rfl ?_ | refine pB rfl rfl rfl rfl rfl rfl ?_
   refine pE rfl ?_
   refine pu (indexStr tab rfl rfl rfl rfl (Int.natCast_nonneg _) (byteList (here_at (s := s) (i := i) (by omega)))) rfl ?_
   refine pE rfl ?_
   refine WO.nil (qs ?_)
   refine condK rfl (fun h50 => ?_) (fun h50 => ?_)
   ·
    have h48 : hereB (bys s) i = 48 := u8_of (n := 48) (by decide) (of_decide_eq_true h50)
    have hE : j + 1 = digsJ (bys s) i := by
     unfold digsJ; rw [if_pos h48]
     rcases hj3 with e | e
     · rw [e]
     · exact absurd h48 e
    rw [hE]
    refine W.exit ?_
    refine qbExit' rfl ?_
    refine qsExit (qlExit (qbExit (qs ?_)))
    iterate 2 refine W.seq ?_
    refine W.region ?_
    iterate 3 refine pE rfl ?_
    first | refine pE rfl ?_ | refine pR rfl rfl rfl rfl rfl ?_ | refine pB rfl rfl rfl rfl rfl rfl ?_
    iterate 2 refine pE rfl ?_
    refine WO.nil (qs ?_)
    refine condK rfl (fun h56 => ?_) (fun h56 => ?_)
    ·
     have q : digsJ (bys s) i = i := by have := of_decide_eq_true h56; omega
     have hg : numJ (bys s) i = .no (digsJ (bys s) i) 10 := by rw [hK]; unfold numK; rw [if_pos q, q]
     refine W.region ?_
     iterate 3 refine pE rfl ?_
     first | refine pE rfl ?_ | refine pR rfl rfl rfl rfl rfl ?_ | refine pB rfl rfl rfl rfl rfl rfl ?_
     refine callP [] [] rfl rfl rfl rfl rfl (fails_fn (digsJ (bys s) i) 10) rfl rfl (by rfl) (fun st' => ?_)
     repeat' first | refine qsPan ?_ | refine qbPan ?_ | refine qlPan ?_ | refine qcPan ?_
     exact qxPan (outP_no hg)
    ·
     have q : ¬ digsJ (bys s) i = i := by have := of_decide_eq_false h56; omega
     unfold numK at hK
     rw [if_neg q] at hK
     refine W.skip (qs (W.seq ?_))
     refine W.regionD tab (by kernel_rfl) ?_
     iterate 3 refine chPu (ev tab rfl) rfl ?_
     first | refine chPu (ev tab rfl) rfl ?_ | refine chPu (loadRow tab rfl rfl rfl rfl) rfl ?_ | refine chPu (loadBox tab rfl rfl rfl rfl rfl) rfl ?_
     iterate 4 refine chPu (ev tab rfl) rfl ?_
     first | refine chPu (ev tab rfl) rfl ?_ | refine chPu (loadRow tab rfl rfl rfl rfl) rfl ?_ | refine chPu (loadBox tab rfl rfl rfl rfl rfl) rfl ?_
     refine chPu (puS (strPart (l := (i : Int)) (h := ((digsJ (bys s) i : Nat) : Int)) tab rfl rfl rfl rfl rfl (by omega) (by omega) (by omega)) (show _ = textAt (bys s) i (digsJ (bys s) i) from extr s i _)) rfl ?_
     refine chPu (ev tab rfl) rfl ?_
     refine CH.nil ?_
     refine qs ?_
     iterate 2 refine W.seq ?_
     refine W.region ?_
     iterate 2 refine pE rfl ?_
     refine WO.nil (qs ?_)
     refine condK rfl (fun h73 => ?_) (fun h73 => ?_)
     ·
      have hg := hK
      rw [if_pos (of_decide_eq_true h73)] at hg
      refine W.region ?_
      refine pE rfl ?_
      refine WO.nil (qs (W.seq (W.region ?_)))
      refine pE rfl ?_
      refine pu (puCall rfl rfl rfl (nparse_fn _ (by first | (rw [show (B #[48]).size = 1 from rfl]; omega) | (rw [← extr, ByteArray.size_extract]; omega))) rfl) rfl ?_
      iterate 5 refine pE rfl ?_
      refine WO.nil (qs ?_)
      iterate 2 refine W.seq ?_
      refine W.region ?_
      iterate 2 refine pE rfl ?_
      refine WO.nil (qs ?_)
      refine condK rfl (fun h80 => ?_) (fun h80 => ?_)
      ·
       have hg2 : numJ (bys s) i = .no i 2 := by rw [hg]; unfold numU; rw [if_neg (by simpa using h80)]
       refine W.region ?_
       refine pE rfl ?_
       refine callP [] [] rfl rfl rfl rfl rfl (fails_fn i 2) rfl rfl (by rfl) (fun st' => ?_)
       repeat' first | refine qsPan ?_ | refine qbPan ?_ | refine qlPan ?_ | refine qcPan ?_
       exact qxPan (outP_no hg2)
      ·
       have hg2 := hg
       unfold numU at hg2
       rw [if_pos (by simpa using h80)] at hg2
       refine W.skip (qs (W.seq (W.region ?_)))
       refine pE rfl ?_
       refine pu (build tab rfl rfl rfl rfl) rfl ?_
       try refine nilO 84 rfl rfl rfl ?_
       refine storeR tab rfl rfl rfl rfl rfl rfl rfl rfl ?_
       refine WO.nil (qs (W.ret ?_))
       refine qxRet (outP_ok (hg2)) ?_
       refine QB1.end tab [] trivial rfl rfl rfl rfl ?_ ?_
       · exact ⟨rfl, trivial⟩
       rfl
     ·
      have hg := hK
      rw [if_neg (of_decide_eq_false h73)] at hg
      refine W.skip (qs (W.seq (W.region ?_)))
      refine pE rfl ?_
      refine pu (puCall rfl rfl rfl (nparse_fn _ (by first | (rw [show (B #[48]).size = 1 from rfl]; omega) | (rw [← extr, ByteArray.size_extract]; omega))) rfl) rfl ?_
      iterate 5 refine pE rfl ?_
      refine WO.nil (qs ?_)
      iterate 2 refine W.seq ?_
      refine W.region ?_
      iterate 2 refine pE rfl ?_
      refine WO.nil (qs ?_)
      refine condK rfl (fun h80 => ?_) (fun h80 => ?_)
      ·
       have hg2 : numJ (bys s) i = .no i 2 := by rw [hg]; unfold numU; rw [if_neg (by simpa using h80)]
       refine W.region ?_
       refine pE rfl ?_
       refine callP [] [] rfl rfl rfl rfl rfl (fails_fn i 2) rfl rfl (by rfl) (fun st' => ?_)
       repeat' first | refine qsPan ?_ | refine qbPan ?_ | refine qlPan ?_ | refine qcPan ?_
       exact qxPan (outP_no hg2)
      ·
       have hg2 := hg
       unfold numU at hg2
       rw [if_pos (by simpa using h80)] at hg2
       refine W.skip (qs (W.seq (W.region ?_)))
       refine pE rfl ?_
       refine pu (build tab rfl rfl rfl rfl) rfl ?_
       try refine nilO 84 rfl rfl rfl ?_
       refine storeR tab rfl rfl rfl rfl rfl rfl rfl rfl ?_
       refine WO.nil (qs (W.ret ?_))
       refine qxRet (outP_ok (hg2)) ?_
       refine QB1.end tab [] trivial rfl rfl rfl rfl ?_ ?_
       · exact ⟨rfl, trivial⟩
       rfl
   ·
    have h48 : hereB (bys s) i ≠ 48 := by intro q; rw [q] at h50; simp at h50
    refine W.skip (qbN (qs (W.region ?_)))
    refine pE rfl ?_
    refine callB [0] [] rfl rfl rfl rfl rfl ((here_fn s (j + 1))) rfl rfl (by rfl) (by rfl) rfl rfl rfl rfl ?_
    refine pE rfl ?_
    refine WO.nil ?_
    refine W.endR [0, 1] ⟨j + 1, ?_⟩ ?_ rfl ?_ ⟨rfl, rfl, rfl, rfl, trivial⟩ ?_ ⟨rfl, rfl, trivial⟩ rfl
    · exact ⟨by omega, by omega, .inr h48, fun q => by rw [← hj4 q, runD_step (by rw [bytes_len]; exact hjs) hd]⟩
    · dsimp only; omega
    · repeat' first | exact trivial | refine ⟨rfl, ?_⟩ | refine ⟨congrArg some (renL_boxE _ _ _), ?_⟩ | refine ⟨step_nat (by assumption) (by assumption), ?_⟩
    · repeat' first | exact trivial | refine ⟨rfl, ?_⟩ | refine ⟨congrArg some (renL_boxE _ _ _), ?_⟩ | refine ⟨step_nat (by assumption) (by assumption), ?_⟩
  ·
   have hd : isDig (hereB (bys s) j) = false := by
    cases q : isDig (hereB (bys s) j) with
    | false => rfl
    | true => rw [dig_iff] at q; revert h34; simp; omega
   have h48 : hereB (bys s) i ≠ 48 := by
    rcases hj3 with e | e
    · rw [← e]; intro q; rw [q] at hd; exact absurd hd (by decide)
    · exact e
   have hE : digsJ (bys s) i = j := by unfold digsJ; rw [if_neg h48, ← hj4 h48, runD_stop hd]
   subst hE
   refine W.exit (qsExit (qlExit (qbExit (qs ?_))))
   iterate 2 refine W.seq ?_
   refine W.region ?_
   iterate 3 refine pE rfl ?_
   first | refine pE rfl ?_ | refine pR rfl rfl rfl rfl rfl ?_ | refine pB rfl rfl rfl rfl rfl rfl ?_
   iterate 2 refine pE rfl ?_
   refine WO.nil (qs ?_)
   refine condK rfl (fun h56 => ?_) (fun h56 => ?_)
   ·
    have q : digsJ (bys s) i = i := by have := of_decide_eq_true h56; omega
    have hg : numJ (bys s) i = .no (digsJ (bys s) i) 10 := by rw [hK]; unfold numK; rw [if_pos q, q]
    refine W.region ?_
    iterate 3 refine pE rfl ?_
    first | refine pE rfl ?_ | refine pR rfl rfl rfl rfl rfl ?_ | refine pB rfl rfl rfl rfl rfl rfl ?_
    refine callP [] [] rfl rfl rfl rfl rfl (fails_fn (digsJ (bys s) i) 10) rfl rfl (by rfl) (fun st' => ?_)
    repeat' first | refine qsPan ?_ | refine qbPan ?_ | refine qlPan ?_ | refine qcPan ?_
    exact qxPan (outP_no hg)
   ·
    have q : ¬ digsJ (bys s) i = i := by have := of_decide_eq_false h56; omega
    unfold numK at hK
    rw [if_neg q] at hK
    refine W.skip (qs (W.seq ?_))
    refine W.regionD tab (by kernel_rfl) ?_
    iterate 3 refine chPu (ev tab rfl) rfl ?_
    first | refine chPu (ev tab rfl) rfl ?_ | refine chPu (loadRow tab rfl rfl rfl rfl) rfl ?_ | refine chPu (loadBox tab rfl rfl rfl rfl rfl) rfl ?_
    iterate 4 refine chPu (ev tab rfl) rfl ?_
    first | refine chPu (ev tab rfl) rfl ?_ | refine chPu (loadRow tab rfl rfl rfl rfl) rfl ?_ | refine chPu (loadBox tab rfl rfl rfl rfl rfl) rfl ?_
    refine chPu (puS (strPart (l := (i : Int)) (h := ((digsJ (bys s) i : Nat) : Int)) tab rfl rfl rfl rfl rfl (by omega) (by omega) (by omega)) (show _ = textAt (bys s) i (digsJ (bys s) i) from extr s i _)) rfl ?_
    refine chPu (ev tab rfl) rfl ?_
    refine CH.nil ?_
    refine qs ?_
    iterate 2 refine W.seq ?_
    refine W.region ?_
    iterate 2 refine pE rfl ?_
    refine WO.nil (qs ?_)
    refine condK rfl (fun h73 => ?_) (fun h73 => ?_)
    ·
     have hg := hK
     rw [if_pos (of_decide_eq_true h73)] at hg
     refine W.region ?_
     refine pE rfl ?_
     refine WO.nil (qs (W.seq (W.region ?_)))
     refine pE rfl ?_
     refine pu (puCall rfl rfl rfl (nparse_fn _ (by first | (rw [show (B #[48]).size = 1 from rfl]; omega) | (rw [← extr, ByteArray.size_extract]; omega))) rfl) rfl ?_
     iterate 5 refine pE rfl ?_
     refine WO.nil (qs ?_)
     iterate 2 refine W.seq ?_
     refine W.region ?_
     iterate 2 refine pE rfl ?_
     refine WO.nil (qs ?_)
     refine condK rfl (fun h80 => ?_) (fun h80 => ?_)
     ·
      have hg2 : numJ (bys s) i = .no i 2 := by rw [hg]; unfold numU; rw [if_neg (by simpa using h80)]
      refine W.region ?_
      refine pE rfl ?_
      refine callP [] [] rfl rfl rfl rfl rfl (fails_fn i 2) rfl rfl (by rfl) (fun st' => ?_)
      repeat' first | refine qsPan ?_ | refine qbPan ?_ | refine qlPan ?_ | refine qcPan ?_
      exact qxPan (outP_no hg2)
     ·
      have hg2 := hg
      unfold numU at hg2
      rw [if_pos (by simpa using h80)] at hg2
      refine W.skip (qs (W.seq (W.region ?_)))
      refine pE rfl ?_
      refine pu (build tab rfl rfl rfl rfl) rfl ?_
      try refine nilO 84 rfl rfl rfl ?_
      refine storeR tab rfl rfl rfl rfl rfl rfl rfl rfl ?_
      refine WO.nil (qs (W.ret ?_))
      refine qxRet (outP_ok (hg2)) ?_
      refine QB1.end tab [] trivial rfl rfl rfl rfl ?_ ?_
      · exact ⟨rfl, trivial⟩
      rfl
    ·
     have hg := hK
     rw [if_neg (of_decide_eq_false h73)] at hg
     refine W.skip (qs (W.seq (W.region ?_)))
     refine pE rfl ?_
     refine pu (puCall rfl rfl rfl (nparse_fn _ (by first | (rw [show (B #[48]).size = 1 from rfl]; omega) | (rw [← extr, ByteArray.size_extract]; omega))) rfl) rfl ?_
     iterate 5 refine pE rfl ?_
     refine WO.nil (qs ?_)
     iterate 2 refine W.seq ?_
     refine W.region ?_
     iterate 2 refine pE rfl ?_
     refine WO.nil (qs ?_)
     refine condK rfl (fun h80 => ?_) (fun h80 => ?_)
     ·
      have hg2 : numJ (bys s) i = .no i 2 := by rw [hg]; unfold numU; rw [if_neg (by simpa using h80)]
      refine W.region ?_
      refine pE rfl ?_
      refine callP [] [] rfl rfl rfl rfl rfl (fails_fn i 2) rfl rfl (by rfl) (fun st' => ?_)
      repeat' first | refine qsPan ?_ | refine qbPan ?_ | refine qlPan ?_ | refine qcPan ?_
      exact qxPan (outP_no hg2)
     ·
      have hg2 := hg
      unfold numU at hg2
      rw [if_pos (by simpa using h80)] at hg2
      refine W.skip (qs (W.seq (W.region ?_)))
      refine pE rfl ?_
      refine pu (build tab rfl rfl rfl rfl) rfl ?_
      try refine nilO 84 rfl rfl rfl ?_
      refine storeR tab rfl rfl rfl rfl rfl rfl rfl rfl ?_
      refine WO.nil (qs (W.ret ?_))
      refine qxRet (outP_ok (hg2)) ?_
      refine QB1.end tab [] trivial rfl rfl rfl rfl ?_ ?_
      · exact ⟨rfl, trivial⟩
      rfl
theorem number_fn (s : ByteArray) (i : Nat) (hi : i ≤ s.size) (hs : s.size ≤ 1000000000) : DoesE Tryd.prog 54 [.ptr 0 0] [pbox s i] 0 (outP 57 s (fun v : JV => .ag v.c) (numJ (bys s) i)) := by
 by_cases hm : hereB (bys s) i = 45
 · exact number_neg s i hi hs hm
 · exact number_pos s i hi hs hm
end Go.Proofs.YtllkpgnpioojjaaDoor
namespace Go.Proofs.YtllkpgnpioojjaaDoor
open Go.Ab Go.Tb
set_option maxRecDepth 10000
attribute [local irreducible] W WO Pu QS QB QL QF QV QV1 CH QE
theorem text_step {l : List UInt8} {k i : Nat} {acc : List UInt8} (h1 : ¬ ((hereB l i).toNat < 32 ∨ 126 < (hereB l i).toNat)) (h2 : hereB l i ≠ 34) (h3 : hereB l i ≠ 92) : textGo l (k + 1) i acc = textGo l k (i + 1) (acc ++ [hereB l i]) := by
 rw [textGo, if_neg h1, if_neg h2, if_neg h3]
theorem text_esc {l : List UInt8} {k i : Nat} {acc : List UInt8} (h3 : hereB l i = 92) : textGo l (k + 1) i acc = match escJ l (i + 1) with | .no a w => .no a w | .ok c j => textGo l k j (acc ++ [c]) := by
 rw [textGo, h3]; rfl
theorem text_end {l : List UInt8} {k i : Nat} {acc : List UInt8} (h3 : hereB l i = 34) : textGo l (k + 1) i acc = .ok acc (i + 1) := by
 rw [textGo, h3]; rfl
theorem text_no {l : List UInt8} {k i : Nat} {acc : List UInt8} (h1 : (hereB l i).toNat < 32 ∨ 126 < (hereB l i).toNat) : textGo l (k + 1) i acc = .no i 10 := by
 rw [textGo, if_pos h1]
theorem catC (a : List UInt8) (b : UInt8) : bytesOf a ++ bytesOf [b] = bytesOf (a ++ [b]) := bys_inj (by show bys _ = bys _; rw [cat_bytes, bys_bytesOf, bys_bytesOf])
theorem ptext_fn (s : ByteArray) (i : Nat) (hi : i ≤ s.size) (hs : s.size ≤ 1000000000) : DoesE Tryd.prog 51 [.ptr 0 0] [pbox s i] 0 (outP 57 s (fun t : List UInt8 => .d (.v (.string (bytesOf t)))) (textJ (bys s) i)) := by
 refine DoesE.of_VF tab (n := 53) (rs := [.tmp 2]) Tryd.func51 (by kernel_rfl) rfl Tryd.ntmps51 Tryd.results51 rfl (outP_len ..) fun C hC hG hfe hlo => ?_
 refine W.seq (W.region ?_)
 refine pE rfl ?_
 refine WO.nil (qs (W.seq (W.region ?_)))
 refine pE rfl ?_
 cases hc6 : takeJ (bys s) 34 i with
 | no a6 w6 =>
  refine callP [0] [] rfl rfl rfl rfl rfl ((take_fn s 34 i hs).pan (outP_no hc6)) rfl rfl (by rfl) (fun st' => ?_)
  repeat' first | refine qsPan ?_ | refine qbPan ?_ | refine qlPan ?_ | refine qcPan ?_
  refine qxPan (outP_no (by unfold textJ; rw [hc6]))
 | ok y6 i6 =>
  refine callB [0] [] rfl rfl rfl rfl rfl ((take_fn s 34 i hs).ret (outP_ok hc6)) rfl rfl (by rfl) (by rfl) rfl rfl rfl rfl ?_
  have hg : textJ (bys s) i = textGo (bys s) ((bys s).length + 1 - i6) i6 [] := by unfold textJ; rw [hc6]
  have hb6 := takeJ_bd (l := bys s) (c := 34) (i := i) (by rw [bytes_len]; exact hi)
  rw [hc6] at hb6
  refine WO.nil (qs (W.seq (W.region ?_)))
  refine allocB tab tU rfl rfl rfl ?_
  refine WO.nil (qs (W.block ?_))
  refine W.loopR (ι := {x : Nat × List UInt8 × Bool // match x with | (j, acc, u) => j ≤ s.size ∧ acc.length ≤ j ∧ ∃ kk, (bys s).length ≤ kk + j ∧ textGo (bys s) (kk + 1) j acc = textJ (bys s) i})
   (fun x => match x.1 with | (j, acc, u) => [(0, .ptr 0 0), (3, .ptr 1 0)]) []
   (fun x => match x.1 with | (j, acc, u) => [(0, [.d (cs s), .d (.v (.int .i64 (j : Int)))]), (1, [.np 1 tB u, .bf 2 tU (bytesOf acc)])]) [] [2] 3 (fun x => match x.1 with | (j, acc, u) => s.size - j)
   [0, 2, 3] ⟨(i6, [], false), ?_⟩ rfl ?_ trivial ?_ trivial rfl ?_
  · exact ⟨by have := hb6.2; rwa [bytes_len] at this, Nat.zero_le _, (bys s).length - i6, by omega, by rw [hg, show (bys s).length + 1 - i6 = (bys s).length - i6 + 1 by have := hb6.2; omega]⟩
  · repeat' first | exact trivial | refine ⟨rfl, ?_⟩ | refine ⟨congrArg some (renL_boxE _ _ _), ?_⟩ | refine ⟨step_nat (by assumption) (by assumption), ?_⟩
  · repeat' first | exact trivial | refine ⟨rfl, ?_⟩ | refine ⟨congrArg some (renL_boxE _ _ _), ?_⟩ | refine ⟨step_nat (by assumption) (by assumption), ?_⟩
  rintro ⟨⟨j, acc, u⟩, hj, ha, hX⟩
  show W _ _ _ _ _ ⟨[(0, .ptr 0 0), (3, .ptr 1 0)], [(0, [.d (cs s), .d (.v (.int .i64 (j : Int)))]), (1, [.np 1 tB u, .bf 2 tU (bytesOf acc)])], [2], 3⟩
  refine W.block (W.seq ?_)
  obtain ⟨kk, hkk, hI⟩ := hX
  refine W.region ?_
  refine pE rfl ?_
  refine callB [0] [] rfl rfl rfl rfl rfl ((here_fn s j)) rfl rfl (by rfl) (by rfl) rfl rfl rfl rfl ?_
  refine pE rfl ?_
  refine WO.nil (qs (W.seq (W.block (W.seq ?_))))
  apply regionB; (case hb => rfl)
  ·
   iterate 3 refine pE rfl ?_
   apply splitJ; (case hj => rfl); (case hl => rfl)
   ·
    iterate 2 refine skipT rfl rfl rfl rfl ?_
    iterate 2 refine pE rfl ?_
    refine WO.nil ?_
    refine qv1 rfl rfl rfl
   ·
    refine goG rfl rfl ?_
    refine pE rfl ?_
    refine goG rfl rfl ?_
    iterate 3 refine pE rfl ?_
    refine WO.nil ?_
    refine qv1 rfl rfl rfl
  refine qs ?_
  refine condK rfl (fun h16 => ?_) (fun h16 => ?_)
  ·
   have q : (hereB (bys s) j).toNat < 32 ∨ 126 < (hereB (bys s) j).toNat := by revert h16; simp; omega
   have hx : textJ (bys s) i = .no j 10 := by rw [← hI, text_no q]
   refine W.region ?_
   iterate 3 refine pE rfl ?_
   first | refine pE rfl ?_ | refine pR rfl rfl rfl rfl rfl ?_ | refine pB rfl rfl rfl rfl rfl rfl ?_
   refine callP [] [] rfl rfl rfl rfl rfl (fails_fn j 10) rfl rfl (by rfl) (fun st' => ?_)
   repeat' first | refine qsPan ?_ | refine qbPan ?_ | refine qlPan ?_ | refine qcPan ?_
   exact qxPan (outP_no hx)
  ·
   have q : ¬ ((hereB (bys s) j).toNat < 32 ∨ 126 < (hereB (bys s) j).toNat) := by revert h16; simp; omega
   have hjs : j < s.size := by
    have := here_lt (l := bys s) (i := j) (by intro e; rw [e] at q; exact q (.inl (by decide)))
    rwa [bytes_len] at this
   refine W.seq (W.region ?_)
   iterate 3 refine pE rfl ?_
   refine WO.nil (qs ?_)
   refine condK rfl (fun h28 => ?_) (fun h28 => ?_)
   ·
    have hx : textJ (bys s) i = .ok acc (j + 1) := by rw [← hI, text_end (u8_of (n := 34) (by decide) (of_decide_eq_true h28))]
    refine W.seq (W.region ?_)
    iterate 3 refine pE rfl ?_
    first | refine pE rfl ?_ | refine pR rfl rfl rfl rfl rfl ?_ | refine pB rfl rfl rfl rfl rfl rfl ?_
    refine pu (puI (ev tab rfl) (y := ((j + 1 : Nat) : Int)) (wrap64 (by omega))) rfl ?_
    iterate 2 refine pE rfl ?_
    refine storeR tab rfl rfl rfl rfl rfl rfl rfl rfl ?_
    refine WO.nil (qs (W.seq (W.region ?_)))
    refine strKeep (hfe rfl) hlo rfl rfl rfl rfl bld_st bld_str (by rw [sz_of]; simp only [maxLen]; omega) rfl rfl ?_
    refine pE rfl ?_
    refine WO.nil (qs (W.ret (qbRet (qsRet (qbRet (qlRet (qbRet ?_)))))))
    refine qxRet (outP_ok (hx)) ?_
    refine QB1.end tab [] trivial rfl rfl rfl rfl ?_ ?_
    · exact ⟨rfl, trivial⟩
    rfl
   ·
    have q2 : hereB (bys s) j ≠ 34 := by intro e; rw [e] at h28; simp at h28
    refine W.seq (W.region ?_)
    iterate 3 refine pE rfl ?_
    refine WO.nil (qs ?_)
    refine condK rfl (fun h39 => ?_) (fun h39 => ?_)
    ·
     have hI2 := hI
     rw [text_esc (u8_of (n := 92) (by decide) (of_decide_eq_true h39))] at hI2
     have hbd := escJ_bd (l := bys s) (i := j + 1) (by rw [bytes_len]; omega)
     refine W.seq (W.region ?_)
     iterate 3 refine pE rfl ?_
     first | refine pE rfl ?_ | refine pR rfl rfl rfl rfl rfl ?_ | refine pB rfl rfl rfl rfl rfl rfl ?_
     refine pu (puI (ev tab rfl) (y := ((j + 1 : Nat) : Int)) (wrap64 (by omega))) rfl ?_
     iterate 2 refine pE rfl ?_
     refine storeR tab rfl rfl rfl rfl rfl rfl rfl rfl ?_
     refine WO.nil (qs (W.region ?_))
     refine pE rfl ?_
     cases hc50 : escJ (bys s) (j + 1) with
     | no a50 w50 =>
      refine callP [0] [] rfl rfl rfl rfl rfl ((escape_fn s (j + 1) (by omega) hs).pan (outP_no hc50)) rfl rfl (by rfl) (fun st' => ?_)
      repeat' first | refine qsPan ?_ | refine qbPan ?_ | refine qlPan ?_ | refine qcPan ?_
      refine qxPan (outP_no (by rw [← hI2, hc50]))
     | ok y50 i50 =>
      refine callB [0] [] rfl rfl rfl rfl rfl ((escape_fn s (j + 1) (by omega) hs).ret (outP_ok hc50)) rfl rfl (by rfl) (by rfl) rfl rfl rfl rfl ?_
      rw [hc50] at hI2 hbd
      have hbd2 : j + 1 < i50 ∧ i50 ≤ s.size := by have := hbd; rw [← bytes_len s]; exact this
      have hW := bbyte_to (u := u) (s := bytesOf acc) (m := bytesOf [y50]) (r := bytesOf (acc ++ [y50])) (c := y50.toNat) (catC ..) rfl (one_bb _).2 (by rw [sz_of]; omega)
      refine pE rfl ?_
      refine WO.nil (qbN (qs (W.region ?_)))
      refine pE rfl ?_
      refine callB [1] [2] rfl rfl rfl rfl rfl hW rfl rfl (by rfl) (by rfl) rfl rfl rfl rfl ?_
      refine WO.nil (qbN ?_)
      first | (refine W.endR [0, 1, 6] ⟨(i50, acc ++ [y50], true), ?_⟩ ?_ rfl ?_ trivial ?_ trivial rfl) | (refine W.endR [0, 1, 5] ⟨(j + 1, acc ++ [hereB (bys s) j], true), ?_⟩ ?_ rfl ?_ trivial ?_ trivial rfl)
      ·
       obtain ⟨k2, rfl⟩ : ∃ k2, kk = k2 + 1 := ⟨kk - 1, by rw [bytes_len] at hkk; omega⟩
       exact ⟨by omega, by rw [List.length_append, List.length_singleton]; omega, k2, by omega, hI2⟩
      · dsimp only; omega
      · repeat' first | exact trivial | refine ⟨rfl, ?_⟩ | refine ⟨congrArg some (renL_boxE _ _ _), ?_⟩ | refine ⟨step_nat (by assumption) (by assumption), ?_⟩
      · repeat' first | exact trivial | refine ⟨rfl, ?_⟩ | refine ⟨congrArg some (renL_boxE _ _ _), ?_⟩ | refine ⟨step_nat (by assumption) (by assumption), ?_⟩
    ·
     have q3 : hereB (bys s) j ≠ 92 := by intro e; rw [e] at h39; simp at h39
     have hI2 := hI
     rw [text_step q q2 q3] at hI2
     have hW := bbyte_to (u := u) (s := bytesOf acc) (m := bytesOf [hereB (bys s) j]) (r := bytesOf (acc ++ [hereB (bys s) j])) (c := (hereB (bys s) j).toNat) (catC ..) rfl (one_bb _).2 (by rw [sz_of]; omega)
     refine W.region ?_
     iterate 3 refine pE rfl ?_
     first | refine pE rfl ?_ | refine pR rfl rfl rfl rfl rfl ?_ | refine pB rfl rfl rfl rfl rfl rfl ?_
     refine pu (puI (ev tab rfl) (y := ((j + 1 : Nat) : Int)) (wrap64 (by omega))) rfl ?_
     iterate 2 refine pE rfl ?_
     refine storeR tab rfl rfl rfl rfl rfl rfl rfl rfl ?_
     refine WO.nil (qbN (qs (W.region ?_)))
     refine pE rfl ?_
     refine callB [1] [2] rfl rfl rfl rfl rfl hW rfl rfl (by rfl) (by rfl) rfl rfl rfl rfl ?_
     refine WO.nil (qbN ?_)
     first | (refine W.endR [0, 1, 6] ⟨(i50, acc ++ [y50], true), ?_⟩ ?_ rfl ?_ trivial ?_ trivial rfl) | (refine W.endR [0, 1, 5] ⟨(j + 1, acc ++ [hereB (bys s) j], true), ?_⟩ ?_ rfl ?_ trivial ?_ trivial rfl)
     ·
      obtain ⟨k2, rfl⟩ : ∃ k2, kk = k2 + 1 := ⟨kk - 1, by rw [bytes_len] at hkk; omega⟩
      exact ⟨by omega, by rw [List.length_append, List.length_singleton]; omega, k2, by omega, hI2⟩
     · dsimp only; omega
     · repeat' first | exact trivial | refine ⟨rfl, ?_⟩ | refine ⟨congrArg some (renL_boxE _ _ _), ?_⟩ | refine ⟨step_nat (by assumption) (by assumption), ?_⟩
     · repeat' first | exact trivial | refine ⟨rfl, ?_⟩ | refine ⟨congrArg some (renL_boxE _ _ _), ?_⟩ | refine ⟨step_nat (by assumption) (by assumption), ?_⟩
end Go.Proofs.YtllkpgnpioojjaaDoor
namespace Go.Proofs.YtllkpgnpioojjaaDoor
open Go.Ab Go.Tb
set_option maxRecDepth 10000
attribute [local irreducible] W WO Pu QS QB QL QF QV QV1 CH QE
theorem val_eq (l : List UInt8) (k : Nat) (level : Int) (i0 : Nat) : valJ l (k + 1) level i0 =
  if hereB l (skipB l i0) = 110 then (match wordJ l nullL (skipB l i0) with | .no a w => .no a w | .ok _ j => .ok (.mk 1 0 (B #[]) [] []) j)
  else if hereB l (skipB l i0) = 116 then (match wordJ l trueL (skipB l i0) with | .no a w => .no a w | .ok _ j => .ok (.mk 2 1 (B #[]) [] []) j)
  else if hereB l (skipB l i0) = 102 then (match wordJ l falseL (skipB l i0) with | .no a w => .no a w | .ok _ j => .ok (.mk 2 0 (B #[]) [] []) j)
  else if hereB l (skipB l i0) = 34 then (match textJ l (skipB l i0) with | .no a w => .no a w | .ok t j => .ok (.mk 4 0 (bytesOf t) [] []) j)
  else if hereB l (skipB l i0) = 91 ∨ hereB l (skipB l i0) = 123 then
   if 16 < level then .no (skipB l i0) 20
   else if hereB l (skipB l i0) = 91 then arrJ l k level (skipB l i0 + 1) else objJ l k level (skipB l i0 + 1)
  else numJ l (skipB l i0) := by rw [valJ]; rfl
theorem ne_of {c d : UInt8} (h : decide ((c.toNat : Int) = (d.toNat : Int)) = false) : c ≠ d := by rintro rfl; simp at h
theorem eq_of {c d : UInt8} (h : decide ((c.toNat : Int) = (d.toNat : Int)) = true) : c = d := UInt8.toNat_inj.1 (by have := of_decide_eq_true h; omega)
theorem value_step (s : ByteArray) (k : Nat) (hs : s.size ≤ 1000000000) (level : Int) (i0 : Nat) (hi : i0 ≤ s.size)
  (hA : ∀ i, i0 < i → i ≤ s.size → level ≤ 16 → DoesE Tryd.prog 52 [.ptr 0 0, .d (.v (.int .i64 level))] [pbox s i] 0 (outP 57 s (fun v : JV => .ag v.c) (arrJ (bys s) k level i)))
  (hO : ∀ i, i0 < i → i ≤ s.size → level ≤ 16 → DoesE Tryd.prog 53 [.ptr 0 0, .d (.v (.int .i64 level))] [pbox s i] 0 (outP 57 s (fun v : JV => .ag v.c) (objJ (bys s) k level i))) :
  DoesE Tryd.prog 32 [.ptr 0 0, .d (.v (.int .i64 level))] [pbox s i0] 0 (outP 57 s (fun v : JV => .ag v.c) (valJ (bys s) (k + 1) level i0)) := by
 have hle : skipB (bys s) i0 ≤ s.size := by have := skipB_le (l := bys s) (i := i0) (by rw [bytes_len]; exact hi); rwa [bytes_len] at this
 have hge := skipB_ge (bys s) i0
 have hv := val_eq (bys s) k level i0
 refine DoesE.of_V tab (n := 63) (rs := [.cell 4 26]) Tryd.func32 (by kernel_rfl) rfl Tryd.ntmps32 Tryd.results32 rfl (outP_len ..) fun C hC hG => ?_
 refine W.seq (W.region ?_)
 refine allocR tab rfl rfl rfl ?_
 refine WO.nil (qs ?_)
 iterate 2 refine W.seq ?_
 refine W.region ?_
 refine pE rfl ?_
 refine callB [0] [] rfl rfl rfl rfl rfl ((peek_fn s i0 hi hs)) rfl rfl (by rfl) (by rfl) rfl rfl rfl rfl ?_
 refine pE rfl ?_
 refine WO.nil (qs (W.block (W.seq (W.region ?_))))
 iterate 3 refine pE rfl ?_
 refine WO.nil (qs ?_)
 refine condK rfl (fun h8 => ?_) (fun h8 => ?_)
 ·
  rw [if_pos (eq_of (d := 110) h8)] at hv
  refine W.seq (W.region ?_)
  refine pE rfl ?_
  cases hc12 : wordJ (bys s) nullL (skipB (bys s) i0) with
  | no a12 w12 =>
   refine callP [0] [] rfl rfl rfl rfl rfl ((word_fn s (B #[110, 117, 108, 108]) (skipB (bys s) i0) hs).pan (outP_no hc12)) rfl rfl (by rfl) (fun st' => ?_)
   repeat' first | refine qsPan ?_ | refine qbPan ?_ | refine qlPan ?_ | refine qcPan ?_
   refine qxPan (outP_no (by rw [hv, hc12]))
  | ok y12 i12 =>
   refine callB [0] [] rfl rfl rfl rfl rfl ((word_fn s (B #[110, 117, 108, 108]) (skipB (bys s) i0) hs).ret (outP_ok hc12)) rfl rfl (by rfl) (by rfl) rfl rfl rfl rfl ?_
   refine WO.nil (qs (W.seq (W.region ?_)))
   refine pu (build tab rfl rfl rfl rfl) rfl ?_
   try refine nilO 13 rfl rfl rfl ?_
   refine storeR tab rfl rfl rfl rfl rfl rfl rfl rfl ?_
   refine WO.nil (qs (W.ret (qbRet (qsRet ?_))))
   refine qxRet (outP_ok ((by rw [hv, hc12]))) ?_
   refine QB1.end tab [] trivial rfl rfl rfl rfl ?_ ?_
   · exact ⟨rfl, trivial⟩
   rfl
 ·
  rw [if_neg (ne_of (d := 110) h8)] at hv
  refine W.seq (W.region ?_)
  iterate 3 refine pE rfl ?_
  refine WO.nil (qs ?_)
  refine condK rfl (fun h14 => ?_) (fun h14 => ?_)
  ·
   rw [if_pos (eq_of (d := 116) h14)] at hv
   refine W.seq (W.region ?_)
   refine pE rfl ?_
   cases hc18 : wordJ (bys s) trueL (skipB (bys s) i0) with
   | no a18 w18 =>
    refine callP [0] [] rfl rfl rfl rfl rfl ((word_fn s (B #[116, 114, 117, 101]) (skipB (bys s) i0) hs).pan (outP_no hc18)) rfl rfl (by rfl) (fun st' => ?_)
    repeat' first | refine qsPan ?_ | refine qbPan ?_ | refine qlPan ?_ | refine qcPan ?_
    refine qxPan (outP_no (by rw [hv, hc18]))
   | ok y18 i18 =>
    refine callB [0] [] rfl rfl rfl rfl rfl ((word_fn s (B #[116, 114, 117, 101]) (skipB (bys s) i0) hs).ret (outP_ok hc18)) rfl rfl (by rfl) (by rfl) rfl rfl rfl rfl ?_
    refine WO.nil (qs (W.seq (W.region ?_)))
    refine pu (build tab rfl rfl rfl rfl) rfl ?_
    try refine nilO 19 rfl rfl rfl ?_
    refine storeR tab rfl rfl rfl rfl rfl rfl rfl rfl ?_
    refine WO.nil (qs (W.ret (qbRet (qsRet ?_))))
    refine qxRet (outP_ok ((by rw [hv, hc18]))) ?_
    refine QB1.end tab [] trivial rfl rfl rfl rfl ?_ ?_
    · exact ⟨rfl, trivial⟩
    rfl
  ·
   rw [if_neg (ne_of (d := 116) h14)] at hv
   refine W.seq (W.region ?_)
   iterate 3 refine pE rfl ?_
   refine WO.nil (qs ?_)
   refine condK rfl (fun h20 => ?_) (fun h20 => ?_)
   ·
    rw [if_pos (eq_of (d := 102) h20)] at hv
    refine W.seq (W.region ?_)
    refine pE rfl ?_
    cases hc24 : wordJ (bys s) falseL (skipB (bys s) i0) with
    | no a24 w24 =>
     refine callP [0] [] rfl rfl rfl rfl rfl ((word_fn s (B #[102, 97, 108, 115, 101]) (skipB (bys s) i0) hs).pan (outP_no hc24)) rfl rfl (by rfl) (fun st' => ?_)
     repeat' first | refine qsPan ?_ | refine qbPan ?_ | refine qlPan ?_ | refine qcPan ?_
     refine qxPan (outP_no (by rw [hv, hc24]))
    | ok y24 i24 =>
     refine callB [0] [] rfl rfl rfl rfl rfl ((word_fn s (B #[102, 97, 108, 115, 101]) (skipB (bys s) i0) hs).ret (outP_ok hc24)) rfl rfl (by rfl) (by rfl) rfl rfl rfl rfl ?_
     refine WO.nil (qs (W.seq (W.region ?_)))
     refine pu (build tab rfl rfl rfl rfl) rfl ?_
     try refine nilO 25 rfl rfl rfl ?_
     refine storeR tab rfl rfl rfl rfl rfl rfl rfl rfl ?_
     refine WO.nil (qs (W.ret (qbRet (qsRet ?_))))
     refine qxRet (outP_ok ((by rw [hv, hc24]))) ?_
     refine QB1.end tab [] trivial rfl rfl rfl rfl ?_ ?_
     · exact ⟨rfl, trivial⟩
     rfl
   ·
    rw [if_neg (ne_of (d := 102) h20)] at hv
    refine W.seq (W.region ?_)
    iterate 3 refine pE rfl ?_
    refine WO.nil (qs ?_)
    refine condK rfl (fun h26 => ?_) (fun h26 => ?_)
    ·
     rw [if_pos (eq_of (d := 34) h26)] at hv
     refine W.seq (W.region ?_)
     refine pE rfl ?_
     cases hc30 : textJ (bys s) (skipB (bys s) i0) with
     | no a30 w30 =>
      refine callP [0] [] rfl rfl rfl rfl rfl ((ptext_fn s (skipB (bys s) i0) hle hs).pan (outP_no hc30)) rfl rfl (by rfl) (fun st' => ?_)
      repeat' first | refine qsPan ?_ | refine qbPan ?_ | refine qlPan ?_ | refine qcPan ?_
      refine qxPan (outP_no (by rw [hv, hc30]))
     | ok y30 i30 =>
      refine callB [0] [] rfl rfl rfl rfl rfl ((ptext_fn s (skipB (bys s) i0) hle hs).ret (outP_ok hc30)) rfl rfl (by rfl) (by rfl) rfl rfl rfl rfl ?_
      refine pu (build tab rfl rfl rfl rfl) rfl ?_
      try refine nilO 31 rfl rfl rfl ?_
      refine storeR tab rfl rfl rfl rfl rfl rfl rfl rfl ?_
      refine WO.nil (qs (W.ret (qbRet (qsRet ?_))))
      refine qxRet (outP_ok ((by rw [hv, hc30]))) ?_
      refine QB1.end tab [] trivial rfl rfl rfl rfl ?_ ?_
      · exact ⟨rfl, trivial⟩
      rfl
    ·
     rw [if_neg (ne_of (d := 34) h26)] at hv
     refine W.seq ?_
     apply regionB; (case hb => rfl)
     ·
      iterate 3 refine pE rfl ?_
      apply splitJ; (case hj => rfl); (case hl => rfl)
      ·
       iterate 2 refine skipT rfl rfl rfl rfl ?_
       iterate 2 refine pE rfl ?_
       refine WO.nil ?_
       refine qv1 rfl rfl rfl
      ·
       refine goG rfl rfl ?_
       refine pE rfl ?_
       refine goG rfl rfl ?_
       iterate 3 refine pE rfl ?_
       refine WO.nil ?_
       refine qv1 rfl rfl rfl
     refine qs ?_
     refine condK rfl (fun h32 => ?_) (fun h32 => ?_)
     ·
      have q : hereB (bys s) (skipB (bys s) i0) = 91 ∨ hereB (bys s) (skipB (bys s) i0) = 123 := by
       by_cases e : hereB (bys s) (skipB (bys s) i0) = 91
       · exact .inl e
       ·
        refine .inr (u8_of (n := 123) (by decide) ?_)
        have e2 : ¬ ((hereB (bys s) (skipB (bys s) i0)).toNat : Int) = 91 := fun h => e (u8_of (n := 91) (by decide) h)
        revert h32; simp [e2]
      rw [if_pos q] at hv
      have hjs : skipB (bys s) i0 < s.size := by
       have := here_lt (l := bys s) (i := skipB (bys s) i0) (by rcases q with q | q <;> rw [q] <;> decide)
       rwa [bytes_len] at this
      iterate 2 refine W.seq ?_
      refine W.region ?_
      iterate 2 refine pE rfl ?_
      refine WO.nil (qs ?_)
      refine condK rfl (fun h40 => ?_) (fun h40 => ?_)
      ·
       rw [if_pos (of_decide_eq_true h40)] at hv
       refine W.region ?_
       iterate 3 refine pE rfl ?_
       first | refine pE rfl ?_ | refine pR rfl rfl rfl rfl rfl ?_ | refine pB rfl rfl rfl rfl rfl rfl ?_
       refine callP [] [] rfl rfl rfl rfl rfl (fails_fn (skipB (bys s) i0) 20) rfl rfl (by rfl) (fun st' => ?_)
       repeat' first | refine qsPan ?_ | refine qbPan ?_ | refine qlPan ?_ | refine qcPan ?_
       exact qxPan (outP_no hv)
      ·
       have hl16 : ¬ 16 < level := of_decide_eq_false h40
       rw [if_neg hl16] at hv
       refine W.skip (qs (W.seq (W.region ?_)))
       iterate 3 refine pE rfl ?_
       first | refine pE rfl ?_ | refine pR rfl rfl rfl rfl rfl ?_ | refine pB rfl rfl rfl rfl rfl rfl ?_
       refine pu (puI (ev tab rfl) (y := ((skipB (bys s) i0 + 1 : Nat) : Int)) (wrap64 (by omega))) rfl ?_
       iterate 2 refine pE rfl ?_
       refine storeR tab rfl rfl rfl rfl rfl rfl rfl rfl ?_
       refine WO.nil (qs ?_)
       iterate 2 refine W.seq ?_
       refine W.region ?_
       iterate 2 refine pE rfl ?_
       refine WO.nil (qs ?_)
       refine condK rfl (fun h54 => ?_) (fun h54 => ?_)
       ·
        rw [if_pos (eq_of (d := 91) h54)] at hv
        refine W.seq (W.region ?_)
        iterate 2 refine pE rfl ?_
        cases hc57 : arrJ (bys s) k level (skipB (bys s) i0 + 1) with
        | no a57 w57 =>
         refine callP [0] [] rfl rfl rfl rfl rfl ((hA (skipB (bys s) i0 + 1) (by omega) (by omega) (by omega)).pan (outP_no hc57)) rfl rfl (by rfl) (fun st' => ?_)
         repeat' first | refine qsPan ?_ | refine qbPan ?_ | refine qlPan ?_ | refine qcPan ?_
         refine qxPan (outP_no (by rw [hv, hc57]))
        | ok y57 i57 =>
         refine callB [0] [] rfl rfl rfl rfl rfl ((hA (skipB (bys s) i0 + 1) (by omega) (by omega) (by omega)).ret (outP_ok hc57)) rfl rfl (by rfl) (by rfl) rfl rfl rfl rfl ?_
         refine storeR tab rfl rfl rfl rfl rfl rfl rfl rfl ?_
         refine WO.nil (qs (W.ret (qsRet (qbRet (qsRet ?_)))))
         refine qxRet (outP_ok ((by rw [hv, hc57]))) ?_
         refine QB1.end tab [] trivial rfl rfl rfl rfl ?_ ?_
         · exact ⟨rfl, trivial⟩
         rfl
       ·
        rw [if_neg (ne_of (d := 91) h54)] at hv
        refine W.skip (qs (W.seq (W.region ?_)))
        iterate 2 refine pE rfl ?_
        cases hc60 : objJ (bys s) k level (skipB (bys s) i0 + 1) with
        | no a60 w60 =>
         refine callP [0] [] rfl rfl rfl rfl rfl ((hO (skipB (bys s) i0 + 1) (by omega) (by omega) (by omega)).pan (outP_no hc60)) rfl rfl (by rfl) (fun st' => ?_)
         repeat' first | refine qsPan ?_ | refine qbPan ?_ | refine qlPan ?_ | refine qcPan ?_
         refine qxPan (outP_no (by rw [hv, hc60]))
        | ok y60 i60 =>
         refine callB [0] [] rfl rfl rfl rfl rfl ((hO (skipB (bys s) i0 + 1) (by omega) (by omega) (by omega)).ret (outP_ok hc60)) rfl rfl (by rfl) (by rfl) rfl rfl rfl rfl ?_
         refine storeR tab rfl rfl rfl rfl rfl rfl rfl rfl ?_
         refine WO.nil (qs (W.ret (qbRet (qsRet ?_))))
         refine qxRet (outP_ok ((by rw [hv, hc60]))) ?_
         refine QB1.end tab [] trivial rfl rfl rfl rfl ?_ ?_
         · exact ⟨rfl, trivial⟩
         rfl
     ·
      have q : ¬ (hereB (bys s) (skipB (bys s) i0) = 91 ∨ hereB (bys s) (skipB (bys s) i0) = 123) := by
       rintro (e | e) <;> rw [e] at h32 <;> simp at h32
      rw [if_neg q] at hv
      refine W.skip (qbN (qs (W.seq (W.region ?_))))
      refine pE rfl ?_
      cases hc62 : numJ (bys s) (skipB (bys s) i0) with
      | no a62 w62 =>
       refine callP [0] [] rfl rfl rfl rfl rfl ((number_fn s (skipB (bys s) i0) hle hs).pan (outP_no hc62)) rfl rfl (by rfl) (fun st' => ?_)
       repeat' first | refine qsPan ?_ | refine qbPan ?_ | refine qlPan ?_ | refine qcPan ?_
       refine qxPan (outP_no (by rw [hv, hc62]))
      | ok y62 i62 =>
       refine callB [0] [] rfl rfl rfl rfl rfl ((number_fn s (skipB (bys s) i0) hle hs).ret (outP_ok hc62)) rfl rfl (by rfl) (by rfl) rfl rfl rfl rfl ?_
       refine storeR tab rfl rfl rfl rfl rfl rfl rfl rfl ?_
       refine WO.nil (qs (W.ret ?_))
       refine qxRet (outP_ok ((by rw [hv, hc62]))) ?_
       refine QB1.end tab [] trivial rfl rfl rfl rfl ?_ ?_
       · exact ⟨rfl, trivial⟩
       rfl
end Go.Proofs.YtllkpgnpioojjaaDoor
namespace Go.Proofs.YtllkpgnpioojjaaDoor
open Go.Ab Go.Tb
set_option maxRecDepth 10000
attribute [local irreducible] W WO Pu QS QB QL QF QV QV1 CH QE
theorem nextJ_bd {l : List UInt8} {c : UInt8} {i : Nat} (h : i ≤ l.length) : Bd l i (nextJ l c i) := by
 have hg := skipB_ge l i
 have hle := skipB_le h
 unfold nextJ
 split
 ·
  rename_i q
  exact ⟨by omega, here_lt (by rw [q]; decide)⟩
 ·
  have ht := takeJ_bd (c := c) hle
  cases hr : takeJ l c (skipB l i) with
  | no a w => rw [hr] at ht; exact ⟨Nat.le_trans hg ht.1, ht.2⟩
  | ok u j => rw [hr] at ht; exact ⟨Nat.lt_of_le_of_lt hg ht.1, ht.2⟩
theorem next_no {l : List UInt8} {c : UInt8} {i a : Nat} {w : Int} (h : nextJ l c i = .no a w) : ¬ hereB l (skipB l i) = 44 ∧ takeJ l c (skipB l i) = .no a w := by
 unfold nextJ at h
 split at h
 · cases h
 ·
  rename_i q
  refine ⟨q, ?_⟩
  cases hr : takeJ l c (skipB l i) with
  | no a' w' => rw [hr] at h; injection h with h1 h2; rw [h1, h2]
  | ok u j => rw [hr] at h; cases h
theorem next_true {l : List UInt8} {c : UInt8} {i j : Nat} (h : nextJ l c i = .ok true j) : hereB l (skipB l i) = 44 ∧ j = skipB l i + 1 := by
 unfold nextJ at h
 split at h
 · rename_i q; injection h with _ h2; exact ⟨q, h2.symm⟩
 ·
  cases hr : takeJ l c (skipB l i) with
  | no a' w' => rw [hr] at h; cases h
  | ok u j => rw [hr] at h; cases h
theorem next_false {l : List UInt8} {c : UInt8} {i j : Nat} (h : nextJ l c i = .ok false j) : ¬ hereB l (skipB l i) = 44 ∧ takeJ l c (skipB l i) = .ok () j := by
 unfold nextJ at h
 split at h
 · cases h
 ·
  rename_i q
  refine ⟨q, ?_⟩
  cases hr : takeJ l c (skipB l i) with
  | no a' w' => rw [hr] at h; cases h
  | ok u j' => rw [hr] at h; injection h with _ h2; rw [h2]
theorem jvc_arr (acc : List JV) : (JV.mk 5 0 (B #[]) [] acc).c = [ci 5, ci 0, cs (B #[]), .sl [], .sl (acc.map JV.c)] := by simp [JV.c, JV.kc_eq, JV.op, JV.n, JV.s, JV.keys, JV.kids]
def ValD (s : ByteArray) (K : Nat) : Prop := ∀ k, k < K → ∀ (level : Int) (i : Nat), 1 ≤ level → level ≤ 17 → i ≤ s.size → 3 * (s.size - i) + 1 ≤ k →
 DoesE Tryd.prog 32 [.ptr 0 0, .d (.v (.int .i64 level))] [pbox s i] 0 (outP 57 s (fun v : JV => .ag v.c) (valJ (bys s) k level i))
theorem array_step (s : ByteArray) (K : Nat) (hs : s.size ≤ 1000000000) (hV : ValD s K) (level : Int) (i0 : Nat) (hi : i0 ≤ s.size) (hl1 : 1 ≤ level) (hl2 : level ≤ 16) (hK : 3 * (s.size - i0) + 3 ≤ K) :
  DoesE Tryd.prog 52 [.ptr 0 0, .d (.v (.int .i64 level))] [pbox s i0] 0 (outP 57 s (fun v : JV => .ag v.c) (arrJ (bys s) K level i0)) := by
 have hle : skipB (bys s) i0 ≤ s.size := by have := skipB_le (l := bys s) (i := i0) (by rw [bytes_len]; exact hi); rwa [bytes_len] at this
 have hge := skipB_ge (bys s) i0
 obtain ⟨K', rfl⟩ : ∃ K', K = K' + 1 := ⟨K - 1, by omega⟩
 have hv := arrJ_eq (bys s) K' level i0
 generalize hA : arrJ (bys s) (K' + 1) level i0 = A at hv ⊢
 clear hA
 refine DoesE.of_V tab (n := 32) (rs := [.cell 4 26]) Tryd.func52 (by kernel_rfl) rfl Tryd.ntmps52 Tryd.results52 rfl (outP_len ..) fun C hC hG => ?_
 refine W.seq (W.region ?_)
 refine allocR tab rfl rfl rfl ?_
 refine WO.nil (qs (W.seq (W.region ?_)))
 refine pu (build tab rfl rfl rfl rfl) rfl ?_
 refine allocR tab rfl rfl rfl ?_
 refine storeR tab rfl rfl rfl rfl rfl rfl rfl rfl ?_
 refine WO.nil (qs ?_)
 iterate 2 refine W.seq ?_
 refine W.region ?_
 refine pE rfl ?_
 refine callB [0] [] rfl rfl rfl rfl rfl ((peek_fn s i0 hi hs)) rfl rfl (by rfl) (by rfl) rfl rfl rfl rfl ?_
 refine pE rfl ?_
 refine WO.nil (qs ?_)
 refine condK rfl (fun h10 => ?_) (fun h10 => ?_)
 ·
  rw [if_pos (eq_of (d := 93) h10)] at hv
  have hjs : skipB (bys s) i0 < s.size := by
   have := here_lt (l := bys s) (i := skipB (bys s) i0) (by rw [eq_of (d := 93) h10]; decide)
   rwa [bytes_len] at this
  refine W.seq (W.region ?_)
  iterate 3 refine pE rfl ?_
  first | refine pE rfl ?_ | refine pR rfl rfl rfl rfl rfl ?_ | refine pB rfl rfl rfl rfl rfl rfl ?_
  refine pu (puI (ev tab rfl) (y := ((skipB (bys s) i0 + 1 : Nat) : Int)) (wrap64 (by omega))) rfl ?_
  iterate 2 refine pE rfl ?_
  refine storeR tab rfl rfl rfl rfl rfl rfl rfl rfl ?_
  refine WO.nil (qs (W.seq (W.region ?_)))
  first | refine pE rfl ?_ | refine pR rfl rfl rfl rfl rfl ?_ | refine pB rfl rfl rfl rfl rfl rfl ?_
  refine storeR tab rfl rfl rfl rfl rfl rfl rfl rfl ?_
  refine WO.nil (qs ?_)
  try refine nilBox 1 3 rfl rfl rfl ?_
  try refine nilBox 1 4 rfl rfl rfl ?_
  refine W.ret (qsRet ?_)
  refine qxRet (outP_ok (hv)) ?_
  refine QB1.end tab [] trivial rfl rfl rfl rfl ?_ ?_
  · exact ⟨rfl, trivial⟩
  rfl
 ·
  rw [if_neg (ne_of (d := 93) h10)] at hv
  refine W.skip (qs ?_)
  iterate 2 refine W.seq ?_
  refine W.region ?_
  refine pE rfl ?_
  refine WO.nil (qs (W.block ?_))
  refine ownNilBox 2 4 rfl rfl rfl ?_
  refine W.loopR (ι := {x : Nat × Nat × List JV × Bool // match x with | (k, j, acc, on) => k ≤ K' ∧ (on = true → j ≤ s.size ∧ acc.length ≤ j ∧ 3 * (s.size - j) + 2 ≤ k ∧ arrGo (bys s) k level j acc = A) ∧ (on = false → A = .ok (.mk 5 0 (B #[]) [] acc) j)})
   (fun x => match x.1 with | (k, j, acc, on) => [(0, .ptr 0 0), (1, .d (.v (.int .i64 level))), (4, .ptr 1 0), (5, .ptr 2 0), (6, .d (.v (.bool on)))]) []
   (fun x => match x.1 with | (k, j, acc, on) => [(0, pbox s j), (2, [.d (ci 5), .d (ci 0), .d (cs (B #[])), .d (.v (.slice none 0 0)), .own 3 (acc.map JV.c)])]) [(1, _)] [3] 4 (fun x => match x.1 with | (k, j, acc, on) => k)
   [0, 1, 2, 4] ⟨(K', skipB (bys s) i0, [], true), ?_⟩ rfl ?_ trivial ?_ ⟨rfl, rfl, trivial⟩ rfl ?_
  · exact ⟨Nat.le_refl _, fun _ => ⟨hle, Nat.zero_le _, by omega, hv.symm⟩, fun h => by cases h⟩
  · repeat' first | exact trivial | refine ⟨rfl, ?_⟩ | refine ⟨congrArg some (renL_boxE _ _ _), ?_⟩ | refine ⟨step_nat (by assumption) (by assumption), ?_⟩
  · repeat' first | exact trivial | refine ⟨rfl, ?_⟩ | refine ⟨congrArg some (renL_boxE _ _ _), ?_⟩ | refine ⟨step_nat (by assumption) (by assumption), ?_⟩
  rintro ⟨⟨k, j, acc, on⟩, hkK, hT, hF⟩
  show W _ _ _ _ _ ⟨[(0, .ptr 0 0), (1, .d (.v (.int .i64 level))), (4, .ptr 1 0), (5, .ptr 2 0), (6, .d (.v (.bool on)))], [(0, pbox s j), (2, [.d (ci 5), .d (ci 0), .d (cs (B #[])), .d (.v (.slice none 0 0)), .own 3 (acc.map JV.c)]), (1, _)], [3], 4⟩
  iterate 2 refine W.seq ?_
  refine W.region ?_
  refine pE rfl ?_
  refine WO.nil (qs ?_)
  refine condK rfl (fun h19 => ?_) (fun h19 => ?_)
  ·
   obtain ⟨hj, ha, hk, hI⟩ := hT h19
   obtain ⟨k', rfl⟩ : ∃ k', k = k' + 1 := ⟨k - 1, by omega⟩
   rw [arrGo_eq] at hI
   have hb := (allBd (bys s) k').v (level + 1) j (by rw [bytes_len]; exact hj)
   refine W.skip (qs (W.seq (W.block ?_)))
   cases hc27 : valJ (bys s) k' (level + 1) j with
   | no a27 w27 =>
    refine' W.regionP1 tab (faultV 57 a27 w27) [5, 6] 7 (by kernel_rfl) (by kernel_rfl) rfl rfl (fun st => ?hQ_1) ?hL_1
    case hQ_1 =>
     repeat' first | refine qsPan ?_ | refine qbPan ?_ | refine qlPan ?_ | refine qcPan ?_
     refine qxPan (outP_no (by rw [← hI, hc27]))
    case' hL_1 => skip
    refine' cdPu' (ev tab rfl) ?p_2 rfl rfl rfl (by kernel_rfl) rfl ?h_2
    case' h_2 => skip
    first | (refine' cdPu' (ev tab rfl) ?p_3 rfl rfl rfl (by kernel_rfl) rfl ?h_3) | (refine' cdPu' (loadRow tab rfl rfl rfl rfl) ?p_3 rfl rfl rfl (by kernel_rfl) rfl ?h_3) | (refine' cdPu' (loadBox tab rfl rfl rfl rfl rfl) ?p_3 rfl rfl rfl (by kernel_rfl) rfl ?h_3)
    case' h_3 => skip
    refine' cdPu' (ev tab rfl) ?p_4 rfl rfl rfl (by kernel_rfl) rfl ?h_4
    case' h_4 => skip
    refine' cdPu' (ev tab rfl) ?p_5 rfl rfl rfl (by kernel_rfl) rfl ?h_5
    case' h_5 => skip
    refine' cdPu' (puI (ev tab rfl) (y := level + 1) (wrap64 (by omega))) ?p_6 rfl rfl rfl (by kernel_rfl) rfl ?h_6
    case' h_6 => skip
    refine' cdP ?x_7 rfl rfl rfl (by kernel_rfl) rfl ?h_7
    case x_7 =>
     intro b hb g; cases b
     · exact (alwNo hb (by kernel_rfl)).elim
     · exact callP [0] [] rfl rfl rfl rfl rfl ((hV k' (by omega) (level + 1) j (by omega) (by omega) hj (by omega)).pan (outP_no hc27)) rfl rfl (by rfl) (fun st' => ⟨_, rfl, rfl⟩)
    case' h_7 => skip
    refine cdB 27 rfl rfl rfl rfl (by kernel_rfl) rfl ?_
    case p_2 => refine ⟨fun ha => (alwNo ha (by kernel_rfl)).elim, ?_, fun ha => (alwNo ha (by kernel_rfl)).elim, ?_, fun ha => (alwNo ha (by kernel_rfl)).elim, ?_⟩ <;> intro ha <;> first | exact ⟨ev tab rfl, fun h => nomatch h⟩ | exact (alwNo ha (by kernel_rfl)).elim
    case p_3 => refine ⟨fun ha => (alwNo ha (by kernel_rfl)).elim, ?_, fun ha => (alwNo ha (by kernel_rfl)).elim, ?_, fun ha => (alwNo ha (by kernel_rfl)).elim, ?_⟩ <;> intro ha <;> first | exact ⟨ev tab rfl, fun h => nomatch h⟩ | exact ⟨loadRow tab rfl rfl rfl rfl, fun h => nomatch h⟩ | exact ⟨loadBox tab rfl rfl rfl rfl rfl, fun h => nomatch h⟩ | exact (alwNo ha (by kernel_rfl)).elim
    case p_4 => refine ⟨fun ha => (alwNo ha (by kernel_rfl)).elim, ?_, fun ha => (alwNo ha (by kernel_rfl)).elim, ?_, fun ha => (alwNo ha (by kernel_rfl)).elim, ?_⟩ <;> intro ha <;> first | exact ⟨ev tab rfl, fun h => nomatch h⟩ | exact (alwNo ha (by kernel_rfl)).elim
    case p_5 => refine ⟨fun ha => (alwNo ha (by kernel_rfl)).elim, ?_, fun ha => (alwNo ha (by kernel_rfl)).elim, ?_, fun ha => (alwNo ha (by kernel_rfl)).elim, ?_⟩ <;> intro ha <;> first | exact ⟨ev tab rfl, fun h => nomatch h⟩ | exact (alwNo ha (by kernel_rfl)).elim
    case p_6 => refine ⟨fun ha => (alwNo ha (by kernel_rfl)).elim, ?_, fun ha => (alwNo ha (by kernel_rfl)).elim, ?_, fun ha => (alwNo ha (by kernel_rfl)).elim, ?_⟩ <;> intro ha <;> first | exact ⟨puI (ev tab rfl) (y := level + 1) (wrap64 (by omega)), fun h => nomatch h⟩ | exact (alwNo ha (by kernel_rfl)).elim
    refine CD.nil ?_ rfl
    exact botO 27 rfl
   | ok y27 i27 =>
    rw [hc27] at hI hb
    dsimp only at hI
    have hb1 : j < i27 := hb.1
    have hb2 : i27 ≤ s.size := by have := hb.2; rwa [bytes_len] at this
    have hbn := nextJ_bd (l := bys s) (c := 93) (i := i27) (by rw [bytes_len]; exact hb2)
    apply W.regionC tab 7 5; (case hB => kernel_rfl); (case h1 => rfl); (case h2 => rfl)
    refine' ccPu ?p1_9 (ev tab rfl) rfl rfl rfl rfl rfl ?h_9
    case' h_9 => skip
    first | (refine' ccPu ?p1_10 (ev tab rfl) rfl rfl rfl rfl rfl ?h_10) | (refine' ccPu ?p1_10 (loadRow tab rfl rfl rfl rfl) rfl rfl rfl rfl rfl ?h_10) | (refine' ccPu ?p1_10 (loadBox tab rfl rfl rfl rfl rfl) rfl rfl rfl rfl rfl ?h_10)
    case' h_10 => skip
    refine' ccPu0 (ev tab rfl) rfl rfl rfl rfl rfl ?h_11
    case' h_11 => skip
    refine' ccPu ?p1_12 (ev tab rfl) rfl rfl rfl rfl rfl ?h_12
    case' h_12 => skip
    refine' ccPu0 (puI (ev tab rfl) (y := level + 1) (wrap64 (by omega))) rfl rfl rfl rfl rfl ?h_13
    case' h_13 => skip
    refine' ccX (fun g => ?e_14) rfl rfl rfl ?h_14
    case e_14 =>
     refine callB [0] [] rfl rfl rfl rfl rfl (((hV k' (by omega) (level + 1) j (by omega) (by omega) hj (by omega)).ret (outP_ok hc27))) rfl rfl (by rfl) (by rfl) rfl rfl rfl rfl ?_
     refine WO.nil ?_
     exact ⟨rfl, rfl⟩
    case' h_14 => skip
    case p1_9 => exact (ev tab rfl)
    case p1_10 => first | (exact (ev tab rfl)) | (exact (loadRow tab rfl rfl rfl rfl)) | (exact (loadBox tab rfl rfl rfl rfl rfl))
    case p1_12 => exact (ev tab rfl)
    refine ccPu1 (buildV tab rfl rfl rfl rfl rfl rfl rfl rfl rfl) rfl rfl rfl rfl rfl ?_
    refine CC.nil ?_
    refine appendM (fn := JV.c) (a := y27) tab rfl rfl rfl rfl rfl rfl rfl rfl rfl rfl (fun _ => rfl) (by show (acc.length + 1) * 80 ≤ _; omega) ?_
    refine pE rfl ?_
    refine storeR tab rfl rfl rfl rfl rfl rfl rfl rfl ?_
    refine WO.nil (qbN (qs (W.region ?_)))
    refine pE rfl ?_
    cases hc21 : nextJ (bys s) 93 i27 with
    | no a21 w21 =>
     refine callP [0] [] rfl rfl rfl rfl rfl ((next_fn s 93 i27 hb2 hs).pan (outP_no hc21)) rfl rfl (by rfl) (fun st' => ?_)
     repeat' first | refine qsPan ?_ | refine qbPan ?_ | refine qlPan ?_ | refine qcPan ?_
     refine qxPan (outP_no (by rw [← hI, if_neg (next_no hc21).1, (next_no hc21).2]))
    | ok y21 i21 =>
     refine callB [0] [] rfl rfl rfl rfl rfl ((next_fn s 93 i27 hb2 hs).ret (outP_ok hc21)) rfl rfl (by rfl) (by rfl) rfl rfl rfl rfl ?_
     rw [hc21] at hbn
     have hb3 : i27 < i21 := hbn.1
     have hb4 : i21 ≤ s.size := by have := hbn.2; rwa [bytes_len] at this
     refine pE rfl ?_
     refine WO.nil ?_
     refine W.endR [0, 1, 2, 5] ⟨(k', i21, acc ++ [y27], y21), ?_⟩ ?_ rfl ?_ trivial ?_ ⟨rfl, rfl, trivial⟩ rfl
     ·
      refine ⟨by omega, fun h => ?_, fun h => ?_⟩
      ·
       subst h
       rw [if_pos (next_true hc21).1, ← (next_true hc21).2] at hI
       exact ⟨hb4, by rw [List.length_append, List.length_singleton]; omega, by omega, hI⟩
      ·
       subst h
       rw [if_neg (next_false hc21).1, (next_false hc21).2] at hI
       exact hI.symm
     · dsimp only; omega
     · repeat' first | exact trivial | refine ⟨rfl, ?_⟩ | refine ⟨congrArg some (renL_boxE _ _ _), ?_⟩ | refine ⟨step_nat (by assumption) (by assumption), ?_⟩
     · repeat' first | exact trivial | refine ⟨rfl, ?_⟩ | refine ⟨congrArg some (renL_boxE _ _ _), ?_⟩ | refine ⟨step_nat (by assumption) (by assumption), ?_⟩
  ·
   have hx := hF h19
   refine W.exit (qsExit (qlExit (qbExit (qs (W.seq (W.region ?_))))))
   first | refine pE rfl ?_ | refine pR rfl rfl rfl rfl rfl ?_ | refine pB rfl rfl rfl rfl rfl rfl ?_
   refine storeR tab rfl rfl rfl rfl rfl rfl rfl rfl ?_
   refine WO.nil (qs ?_)
   try refine nilBox 1 3 rfl rfl rfl ?_
   try refine nilBox 1 4 rfl rfl rfl ?_
   refine W.ret ?_
   refine qxRet (outP_ok (hx)) ?_
   refine QB1.end tab [] trivial rfl rfl rfl rfl ?_ ?_
   · exact ⟨rfl, trivial⟩
   rw [jvc_arr]
   rfl
end Go.Proofs.YtllkpgnpioojjaaDoor
