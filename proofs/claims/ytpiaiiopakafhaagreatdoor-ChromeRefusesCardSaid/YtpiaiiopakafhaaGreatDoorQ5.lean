import Derived.Test.YtpiaiiopakafhaaGreatDoorQ4
import Derived.Test.YtpiaiiopakafhaaGreatDoorChecked
import Derived.KernelRfl
import Derived.Test.YtpiaiiopakafhaaGreatDoorRows
import Derived.Shelf.Strings.Builder1
import Derived.Shelf.Small.Strs
import Derived.Shelf.Strconv.Atoi
import Derived.Shelf.Strconv.Itoa0
import Derived.Shelf.Strconv.Itoa1
import Derived.Shelf.LaysM
import Derived.Shelf.Strconv.Itoa2
import Derived.Shelf.Strconv.Itoa3
import Derived.Shelf.Strconv.AtoiErrFast
import Derived.Shelf.Strconv.ParseIntEmpty
import Derived.Shelf.Strconv.AtoiFail
import Derived.Shelf.Strconv.Clone
import Derived.Shelf.Strconv.SyntaxError
import Derived.Shelf.LaysC
import Derived.Shelf.Strconv.ToError
import Derived.Shelf.Strconv.AtoiErr
import Derived.Shelf.Strconv.ErrVar
import Derived.Shelf.Strconv.Lower
import Derived.Shelf.Strconv.ParseUint10
import Derived.Shelf.Strconv.ParseUint10Empty
import Derived.Shelf.Strconv.ParseUint10Any
import Derived.Shelf.Strconv.ParseInt10
import Derived.Shelf.Strconv.AtoiLong
import Derived.Shelf.Strconv.AtoiInnerAll
import Derived.Shelf.Strconv.RangeError
import Derived.Shelf.Strconv.ToErrorRange
import Derived.Shelf.Strconv.AtoiAll
import Derived.Shelf.Strconv.ErrVarAll
import Derived.Shelf.Strings.Search1
import Derived.Shelf.Slices.Equal
import Derived.Shelf.Slices.Empties2
import Derived.Test.YtpiaiiopakafhaaGreatDoorProg
import Derived.Lib.Strings
import Derived.Lib.Slices
import Derived.Lib.Walk
import Derived.Lib.Builder
import Derived.Lib.UnsafeStr
import Derived.WalkKit
import Derived.Laws.Externs
import Derived.Laws.IdiomCopy
namespace Go.Proofs.YtpiaiiopakafhaaGreatDoor
open Go.Ab
abbrev Hq:List (Nat×cI):=[
 (2,⟨.int .i64,1,8,[.int .i64 0]⟩),
 (3,⟨.int .i64,1,8,[.int .i64 0]⟩),
 (4,⟨.bool,1,1,[.bool false]⟩),
 (5,⟨.int .u8,1,1,[.int .u8 0]⟩),
 (9,⟨.str,1,16,[.string ⟨#[]⟩]⟩),
 (12,⟨.int .u64,1,8,[.int .u64 0]⟩),
 (21,⟨.int .i32,1,4,[.int .i32 0]⟩),
 (23,⟨.slice 56,1,24,[.slice none 0 0]⟩),
 (24,⟨.slice 59,1,24,[.slice none 0 0]⟩),
 (25,⟨.slice 97,1,24,[.slice none 0 0]⟩),
 (27,⟨.st [(0,23, "Threads"),(1,24, "Domains"),(2,25, "Snaps")],3,72,[.slice none 0 0,.slice none 0 0,.slice none 0 0]⟩),
 (28,⟨.slice 61,1,24,[.slice none 0 0]⟩),
 (30,⟨.st [(0,27, "Head"),(3,28, "Parts")],4,96,[.slice none 0 0,.slice none 0 0,.slice none 0 0,.slice none 0 0]⟩),
 (31,⟨.int .i64,1,8,[.int .i64 0]⟩),
 (36,⟨.slice 86,1,24,[.slice none 0 0]⟩),
 (42,⟨.int .i64,1,8,[.int .i64 0]⟩),
 (43,⟨.slice 9,1,24,[.slice none 0 0]⟩),
 (44,⟨.slice 46,1,24,[.slice none 0 0]⟩),
 (46,⟨.st [(0,42, "Op"),(1,3, "N"),(2,9, "S"),(3,43, "Keys"),(4,44, "Kids")],5,80,[.int .i64 0,.int .i64 0,.string ⟨#[]⟩,.slice none 0 0,.slice none 0 0]⟩),
 (48,⟨.int .i64,1,8,[.int .i64 0]⟩),
 (50,⟨.st [(0,3, "At"),(1,48, "Kind"),(2,9, "Name"),(3,3, "N"),(4,3, "M"),(5,43, "Stack")],6,72,[.int .i64 0,.int .i64 0,.string ⟨#[]⟩,.int .i64 0,.int .i64 0,.slice none 0 0]⟩),
 (56,⟨.st [(0,3, "Id"),(1,9, "Name"),(2,3, "Domain")],3,32,[.int .i64 0,.string ⟨#[]⟩,.int .i64 0]⟩),
 (57,⟨.slice 50,1,24,[.slice none 0 0]⟩),
 (59,⟨.st [(0,3, "Id"),(1,3, "Ppm")],2,16,[.int .i64 0,.int .i64 0]⟩),
 (61,⟨.st [(0,3, "Thread"),(1,3, "Serial"),(2,3, "Lost"),(3,57, "Events")],4,48,[.int .i64 0,.int .i64 0,.int .i64 0,.slice none 0 0]⟩),
 (66,⟨.ptr 71,1,8,[.pointer none]⟩),
 (67,⟨.map 3 9,1,8,[.map none]⟩),
 (68,⟨.map 3 57,1,8,[.map none]⟩),
 (69,⟨.slice 3,1,24,[.slice none 0 0]⟩),
 (71,⟨.st [(0,69, "ids"),(1,67, "names"),(2,68, "events")],3,40,[.slice none 0 0,.map none,.map none]⟩),
 (77,⟨.slice 57,1,24,[.slice none 0 0]⟩),
 (86,⟨.st [(0,3, "Thread"),(1,3, "Serial"),(2,3, "Count")],3,24,[.int .i64 0,.int .i64 0,.int .i64 0]⟩),
 (95,⟨.st [(0,3, "Lo"),(1,3, "Hi")],2,16,[.int .i64 0,.int .i64 0]⟩),
 (97,⟨.st [(0,3, "A"),(1,3, "AtA"),(2,3, "B"),(3,95, "AtB")],5,40,[.int .i64 0,.int .i64 0,.int .i64 0,.int .i64 0,.int .i64 0]⟩),
 (100,⟨.ptr 102,1,8,[.pointer none]⟩),
 (102,⟨.st [(0,46, "j"),(5,4, "bad")],6,88,[.int .i64 0,.int .i64 0,.string ⟨#[]⟩,.slice none 0 0,.slice none 0 0,.bool false]⟩),
 (106,⟨.slice 108,1,24,[.slice none 0 0]⟩),
 (108,⟨.st [(0,9, "ph"),(1,48, "kind"),(2,4, "name"),(3,9, "n"),(4,9, "m"),(5,4, "hasStack")],6,72,[.string ⟨#[]⟩,.int .i64 0,.bool false,.string ⟨#[]⟩,.string ⟨#[]⟩,.bool false]⟩),
 (125,⟨.map 3 28,1,8,[.map none]⟩),
 (128,⟨.st [(0,3, "at"),(1,31, "why")],2,16,[.int .i64 0,.int .i64 0]⟩),
 (130,⟨.ptr 132,1,8,[.pointer none]⟩),
 (132,⟨.st [(0,9, "s"),(1,3, "at")],2,24,[.string ⟨#[]⟩,.int .i64 0]⟩),
 (138,⟨.ptr 140,1,8,[.pointer none]⟩),
 (140,⟨.st [(0,9, "S"),(1,3, "At"),(2,3, "Pos"),(3,31, "Err")],4,40,[.string ⟨#[]⟩,.int .i64 0,.int .i64 0,.int .i64 0]⟩),
 (147,⟨.ptr 150,1,8,[.pointer none]⟩),
 (148,⟨.slice 5,1,24,[.slice none 0 0]⟩),
 (150,⟨.st [(0,147, "addr"),(1,148, "buf")],2,32,[.pointer none,.slice none 0 0]⟩),
 (160,⟨.st [(0,9, "word"),(1,4, "name"),(2,4, "n"),(3,4, "m"),(4,4, "stack"),(5,3, "least"),(6,3, "most"),(7,3, "mLeast"),(8,3, "mMost")],9,56,[.string ⟨#[]⟩,.bool false,.bool false,.bool false,.bool false,.int .i64 0,.int .i64 0,.int .i64 0,.int .i64 0]⟩),
 (169,⟨.map 3 4,1,8,[.map none]⟩),
 (174,⟨.map 3 175,1,8,[.map none]⟩),
 (175,⟨.ptr 177,1,8,[.pointer none]⟩),
 (177,⟨.st [(0,3, "next"),(1,3, "last")],2,16,[.int .i64 0,.int .i64 0]⟩),
 (181,⟨.ptr 61,1,8,[.pointer none]⟩),
 (201,⟨.ptr 5,1,8,[.pointer none]⟩),
 (205,⟨.slice 160,1,24,[.slice none 0 0]⟩),
 (212,⟨.map 9 4,1,8,[.map none]⟩),
 (220,⟨.int .u64,1,8,[.int .u64 0]⟩),
 (231,⟨.int .u32,1,4,[.int .u32 0]⟩),
 (233,⟨.int .u64,1,8,[.int .u64 0]⟩),
 (236,⟨.int .i64,1,8,[.int .i64 0]⟩),
 (239,⟨.ptr 246,1,8,[.pointer none]⟩),
 (251,⟨.ptr 253,1,8,[.pointer none]⟩),
 (253,⟨.st [(0,9, "s")],1,16,[.string ⟨#[]⟩]⟩)]
theorem HX:Hq.all (fun x=>yH Tryz.prog x.1 x.2)=true:=by kernel_rfl
abbrev aX:cn Tryz.prog:=⟨Hq,HX,by kernel_rfl⟩
instance JC:Go.Ab.db Tryz.prog:=⟨fun W=>oM Tryz.prog W⟩
section
variable {C:Ctx} {n:Nat} {ops:Array Oper} {Q:Exit→St→Prop} {rest:List Oper} {f:List (Nat×A)} {bx:List (Nat×List A)} {lv:List Nat} {gen d:Nat} {ty:TypeId} {pos:String} {af:Array Edge} {a:A}
theorem pE {op:Op} (h:Bool.rec (motive:=fun _=>Option A) none (jH aX f bx op) (Nat.blt d n)=some a) (k:WO Tryz.prog C n ops Q rest ⟨(d,a)::f,bx,lv,gen⟩):WO Tryz.prog C n ops Q (⟨some d,op,ty,pos,af,none⟩::rest) ⟨f,bx,lv,gen⟩:=by
 cases hb:Nat.blt d n with
 | false=>rw[hb] at h;exact absurd h (by simp)
 | true=>rw[hb] at h;exact pu (ev aX h) hb k
theorem pR {t:Nat} {x:Operand} {td:cI} {l:List D} (I:aY aX.l t=some td) (J:td.k.agg=true) (M:av f x=some (.rowd l)) (hl:l.length=td.n) (hd:Nat.blt d n=true) (k:WO Tryz.prog C n ops Q rest ⟨(d,.ag l)::f,bx,lv,gen⟩):WO Tryz.prog C n ops Q (⟨some d,.load t x,ty,pos,af,none⟩::rest) ⟨f,bx,lv,gen⟩:=pu (eG aX I J M hl) hd k
theorem pB {t:Nat} {x:Operand} {td:cI} {g:Nat} {l:List D} (I:aY aX.l t=some td) (J:td.k.agg=true) (M:av f x=some (.ptr g 0)) (hb:aY bx g=some (l.map A.d)) (hl:l.length=td.n) (hd:Nat.blt d n=true) (k:WO Tryz.prog C n ops Q rest ⟨(d,.ag l)::f,bx,lv,gen⟩):WO Tryz.prog C n ops Q (⟨some d,.load t x,ty,pos,af,none⟩::rest) ⟨f,bx,lv,gen⟩:=pu (eC aX I J M hb hl) hd k
theorem aZ (k:Nat) {l r:List Oper} {f f':List (Nat×A)} (h:runK aX n k l f bx=some (r,f')) (q:WO Tryz.prog C n ops Q r ⟨f',bx,lv,gen⟩):WO Tryz.prog C n ops Q l ⟨f,bx,lv,gen⟩:=Ei aX k h q
theorem cQ (k:Nat) {l:List Oper} {id:Nat} {f f':List (Nat×A)} (h:runK aX n k l f bx=some ([],f')) (q:Q .normal ⟨f',bx,lv,gen⟩):W Tryz.prog C n (.region id l.toArray false) Q ⟨f,bx,lv,gen⟩:=HU aX k h q
theorem ba (k:Nat) {l:List Oper} {id:Nat} {c:Code} {f f':List (Nat×A)} (h:runK aX n k l f bx=some ([],f')) (q:W Tryz.prog C n c Q ⟨f',bx,lv,gen⟩):W Tryz.prog C n (.seq (.region id l.toArray false) c) Q ⟨f,bx,lv,gen⟩:=Jr aX k h q
end
theorem Ju (W:World) (h:laidMet Tryz.prog Rows.chromeRefusesRow.laid W):oM Tryz.prog W:=
 Ca (t:=230) (e:=220) (m:=20) (ti:=196) h (d:=Rows.laid_internal_strconv_uint64pow10) (.tail _ (.tail _ (.head _))) (by kernel_rfl) (by kernel_rfl) (by kernel_rfl) (by kernel_rfl) (by kernel_rfl) (by kernel_rfl)
  (nm := "*errors.errorString") (nm' := "*errors.errorString") (.tail _ (.tail _ (.tail _ (.tail _ (.head _))))) (.tail _ (.tail _ (.tail _ (.head _)))) (by kernel_rfl) (by kernel_rfl) (by kernel_rfl)
end Go.Proofs.YtpiaiiopakafhaaGreatDoor
namespace Go.Proofs.YtpiaiiopakafhaaGreatDoor
open Go.Ab Go.Tb
set_option maxRecDepth 10000
set_option maxHeartbeats 1000000
attribute [local irreducible] W WO Pu QS QB QL QF QV cu CH QE
theorem EZ (n:Int):bq Tryz.prog 143 [.d (.v (.int .i64 n))] (.d (.v (.bool (eQ n)))) 0:=by
 refine bq.bZ (n:=9) (ts:=[2]) Tryz.func143 (by kernel_rfl) Z Tryz.ntmps143 Tryz.results143 Z Z fun C hC I=>?_;refine ba 1 Z ?_;refine ae ?_;apply bL;(case hb=>rfl);·repeat' first | refine cc Z Z Z | refine bH Z Z ?_ | refine bC Z Z Z Z ?_ | refine pE Z ?_ | refine ab ?_ | (apply b8;(case hj=>rfl);(case hl=>rfl))
 refine qs (W.ret (QF.br trivial Z ?_));simp[norm,bW,eQ]
theorem BP (fid:Nat) (caps:List A) (I:Still caps) (p:ByteArray→Bool) (hp:∀ x:ByteArray,bq Tryz.prog fid (.d (.v (.string x))::caps) (.d (.v (.bool (p x)))) 0) (l:List ByteArray) :
 bq Tryz.prog 148 [.d (.sl (l.map sc)),.clo fid caps] (.d (.v (.int .i64 (idx (l.findIdx? p))))) 0:=by
 refine bq.bZ (n:=19) (ts:=[4]) Tryz.func148 (by kernel_rfl) Z Tryz.ntmps148 Tryz.results148 Z Z fun C hC X=>?_;refine ba 1 Z ?_;refine ae (ba 3 Z ?_);refine W.block (W.len (t:=0) Z Z (fun hlen=>?_));try simp only[List.length_map,Ex.bA] at hlen
 refine W.b7 (ι:={x:Nat // match x with | k=>k≤l.length∧cV p l k})
  (fun x=>match x.1 with | k=>[(8,.d (.v (.int .i64 ((k:Nat):Int))))]) [(0,_),(1,_),(7,_)]
  (fun x=>match x.1 with | k=>[]) [] [] 0 (fun x=>match x.1 with | k=>l.length - k)
  [] ⟨0,?_⟩ Z ?_ ⟨rfl,(by first | rfl | exact I.2),rfl,(by first | rfl | exact I.2),rfl,(by first | rfl | exact I.2),trivial⟩ ?_ trivial Z ?_
 ·exact⟨Nat.zero_le _,cV.zero⟩
 ·repeat' constructor
 ·repeat' exact trivial
 rintro⟨k,U,M⟩;show W _ _ _ _ _ ⟨[(8,.d (.v (.int .i64 ((k:Nat):Int)))),(0,_),(1,_),(7,_)],[],[],0⟩;refine ba 1 Z ?_;refine ae (cB (l:=l) (k:=k) Z (by simp[Ex.bA,bk]) U (fun x N hd O=>?_) (fun he hd=>?_));·
  refine ah (qs (ae (W.block (ba 2 Z ?_))));refine ae (aa (aZ 3 Z ?_));refine pu (indexAddr aX Z Z Z Z Z Z (Int.natCast_nonneg _) (bN (by assumption)) Z) Z ?_;refine aZ 1 Z ?_;refine pu (bm Z Z (by rw[List.map_append,I.1 _ 3];rfl) (hp x) Z) Z ?_;refine ab (qs (be Z (fun J=>?_) (fun J=>?_)));·
   refine ba 2 Z ?_;refine W.ret (bz (bo (dI (bz (bo (QF.br trivial Z ?_))))));simp only[norm,bW];rw[M.found N J];rfl
  refine ah (ca (qs (cQ 2 Z ?_)));refine W.cr [] ⟨k+1,?_⟩ ?_ Z ?_ ⟨rfl,(by first | rfl | exact I.2),rfl,(by first | rfl | exact I.2),rfl,(by first | rfl | exact I.2),trivial⟩ ?_ trivial Z;·exact⟨O,M.step N J⟩
  ·dsimp only;omega
  ·repeat' first | exact trivial | refine⟨bJ (by assumption) (by assumption),?_⟩
  repeat' exact trivial
 refine an (bT (bR (bP (qs (ba 1 Z ?_)))));refine W.ret (QF.br trivial Z ?_);simp only[norm,bW];rw[M.end_ he];rfl
theorem xr (l:List ByteArray) (s:ByteArray):bq Tryz.prog 147 [.d (.sl (l.map sc)),.d (.v (.string s))] (.d (.v (.int .i64 (idx (l.findIdx? fun x=>decide (s=x)))))) 0:=by
 refine bq.bZ (n:=19) (ts:=[4]) Tryz.func147 (by kernel_rfl) Z Tryz.ntmps147 Tryz.results147 Z Z fun C hC U=>?_;refine ba 1 Z ?_;refine ae (ba 3 Z ?_);refine W.block (W.len (t:=0) Z Z (fun hlen=>?_));try simp only[List.length_map,Ex.bA] at hlen
 refine W.b7 (ι:={x:Nat // match x with | k=>k≤l.length∧cV (fun x=>decide (s=x)) l k})
  (fun x=>match x.1 with | k=>[(8,.d (.v (.int .i64 ((k:Nat):Int))))]) [(0,_),(1,_),(7,_)]
  (fun x=>match x.1 with | k=>[]) [] [] 0 (fun x=>match x.1 with | k=>l.length - k)
  [] ⟨0,?_⟩ Z ?_ ⟨rfl,rfl,rfl,rfl,rfl,rfl,trivial⟩ ?_ trivial Z ?_
 ·exact⟨Nat.zero_le _,cV.zero⟩
 ·repeat' constructor
 ·repeat' exact trivial
 rintro⟨k,O,J⟩;show W _ _ _ _ _ ⟨[(8,.d (.v (.int .i64 ((k:Nat):Int)))),(0,_),(1,_),(7,_)],[],[],0⟩;refine ba 1 Z ?_;refine ae (cB (l:=l) (k:=k) Z (by simp[Ex.bA,bk]) O (fun x M hd N=>?_) (fun he hd=>?_));·
  refine ah (qs (ae (W.block (ba 2 Z ?_))));refine ae (aa (aZ 3 Z ?_));refine pu (indexAddr aX Z Z Z Z Z Z (Int.natCast_nonneg _) (bN (by assumption)) Z) Z ?_;refine aZ 2 Z ?_;refine ab (qs (be Z (fun I=>?_) (fun I=>?_)));·
   refine ba 2 Z ?_;refine W.ret (bz (bo (dI (bz (bo (QF.br trivial Z ?_))))));simp only[norm,bW];rw[J.found M I];rfl
  refine ah (ca (qs (cQ 2 Z ?_)));refine W.cr [] ⟨k+1,?_⟩ ?_ Z ?_ ⟨rfl,rfl,rfl,rfl,rfl,rfl,trivial⟩ ?_ trivial Z;·exact⟨N,J.step M I⟩
  ·dsimp only;omega
  ·repeat' first | exact trivial | refine⟨bJ (by assumption) (by assumption),?_⟩
  repeat' exact trivial
 refine an (bT (bR (bP (qs (ba 1 Z ?_)))));refine W.ret (QF.br trivial Z ?_);simp only[norm,bW];rw[J.end_ he];rfl
theorem zi (l:List ByteArray) (s:ByteArray):bq Tryz.prog 99 [.d (.sl (l.map sc)),.d (.v (.string s))] (.d (.v (.bool (l.any fun x=>decide (s=x))))) 0:=by refine bq.bZ (n:=9) (ts:=[4]) Tryz.func99 (by kernel_rfl) Z Tryz.ntmps99 Tryz.results99 Z Z fun C hC I=>?_;refine ba 1 Z ?_;refine ae (aa (aZ 2 Z ?_));refine pu (bm Z Z Z (xr ..) Z) Z ?_;refine aZ 2 Z ?_;refine ab (qs (W.ret (QF.br trivial Z ?_)));simp only[norm,bW];rw[←gQ]
theorem uO (fid:Nat) (caps:List A) (I:Still caps) (p:ByteArray→Bool) (hp:∀ x:ByteArray,bq Tryz.prog fid (.d (.v (.string x))::caps) (.d (.v (.bool (p x)))) 0) (l:List ByteArray) :
 bq Tryz.prog 97 [.d (.sl (l.map sc)),.clo fid caps] (.d (.v (.bool (l.any p)))) 0:=by
 refine bq.bZ (n:=9) (ts:=[4]) Tryz.func97 (by kernel_rfl) Z Tryz.ntmps97 Tryz.results97 Z Z fun C hC J=>?_;refine ba 1 Z ?_;refine ae (aa (aZ 2 Z ?_));refine pu (bm (args:=[.d (.sl (l.map sc)),.clo fid caps]) Z Z (by simp[conv,I.1 _ 2]) (BP fid caps I p hp l) Z) Z ?_;refine aZ 2 Z ?_;refine ab (qs (W.ret (QF.br trivial Z ?_)));simp only[norm,bW];rw[←gQ]
theorem Ha (s:ByteArray) (b:UInt8):bq Tryz.prog 161 [.d (.v (.string s)),.d (.v (.int .u8 b.toNat))] (.d (.v (.int .i64 (Lib.indexByte (bc s) b)))) 0:=by refine bq.bZ (n:=8) (ts:=[4]) Tryz.func161 (by kernel_rfl) Z Tryz.ntmps161 Tryz.results161 Z Z fun C hC I=>?_;refine W.ot (t:=0) Z (fun hok=>?_);refine ba 1 Z ?_;refine ae (aa (aZ 2 Z ?_));refine pu (IW (vs:=[.string s,.int .u8 b.toNat]) Z Z (fun w=>(run_callFunc_extern Tryz.func179 (by kernel_rfl) (by kernel_rfl) (by kernel_rfl) (by kernel_rfl) #[.string s,.int .u8 b.toNat] w).trans (by rw[show(Extern.BytealgIndexByte.indexByte #[.string s,.int .u8 b.toNat]).run Tryz.prog w=_ from Lib.run_indexByteString s b.toNat w];rfl)) (w4 hok _)) Z ?_;refine pE Z (ab (qs (W.ret (QF.br trivial Z ?_))));simp[norm,bW,bc]
theorem Ag (s:ByteArray) (b:UInt8):bq Tryz.prog 119 [.d (.v (.string s)),.d (.v (.int .u8 b.toNat))] (.d (.v (.int .i64 (Lib.indexByte (bc s) b)))) 0:=by refine bq.bZ (n:=8) (ts:=[4]) Tryz.func119 (by kernel_rfl) Z Tryz.ntmps119 Tryz.results119 Z Z fun C hC I=>?_;refine ba 1 Z ?_;refine ae (aa (aZ 2 Z ?_));refine pu (bm Z Z Z (Ha ..) Z) Z ?_;refine pE Z (ab (qs (W.ret (QF.br trivial Z ?_))));rfl
theorem BG (b:UInt8):bq Tryz.prog 122 [.d (.v (.int .u8 b.toNat))] (.d (.v (.bool (kg b)))) 0:=by
 refine bq.bZ (n:=30) (ts:=[2]) Tryz.func122 (by kernel_rfl) Z Tryz.ntmps122 Tryz.results122 Z Z fun C hC I=>?_;refine ba 1 Z ?_;refine ae ?_;apply bL;(case hb=>rfl);·repeat' first | refine cc Z Z Z | refine bH Z Z ?_ | refine bC Z Z Z Z ?_ | refine oT Z Z Z ?_ | refine pE Z ?_ | refine ab ?_ | refine pu (bm Z Z Z (Ag ..) Z) Z ?_ | (apply b8;(case hj=>rfl);(case hl=>rfl))
 refine qs (W.ret (QF.br trivial Z ?_));simp only[norm,bW];rw[wM];simp only[kg,lower,marks];simp[bc];grind
theorem oN (s:ByteArray):bq Tryz.prog 75 [.d (.v (.string s))] (.d (.v (.int .i64 (cY s)))) 0:=by
 refine bq.bZ (n:=22) (ts:=[2]) Tryz.func75 (by kernel_rfl) Z Tryz.ntmps75 Tryz.results75 Z Z fun C hC U=>?_;refine ba 1 Z ?_;iterate 2 refine ae ?_
 apply bL;(case hb=>rfl);·repeat' first | refine cc Z Z Z | refine bH Z Z ?_ | refine bC Z Z Z Z ?_ | refine pE Z ?_ | refine ab ?_ | (apply b8;(case hj=>rfl);(case hl=>rfl))
 refine qs (be Z (fun J=>?_) (fun J=>?_));·
  refine ba 1 Z ?_;refine W.ret (bo (QF.br trivial Z ?_));simp only[norm,bW];grind[cY,oh]
 refine ah (qs (ae (ba 3 Z ?_)));refine W.block (W.ot (t:=0) Z (fun hok=>?_));have hlen:=mD hok
 refine W.b7 (ι:={x:Nat // match x with | k=>k≤(bc s).length∧((bc s).drop k).all kg=(bc s).all kg})
  (fun x=>match x.1 with | k=>[(13,.d (.v (.int .i64 ((k:Nat):Int))))]) [(0,_),(12,_)]
  (fun x=>match x.1 with | k=>[]) [] [] 0 (fun x=>match x.1 with | k=>(bc s).length - k)
  [] ⟨0,?_⟩ Z ?_ ⟨rfl,rfl,rfl,rfl,trivial⟩ ?_ trivial Z ?_
 ·exact⟨Nat.zero_le _,rfl⟩
 ·repeat' constructor
 ·repeat' exact trivial
 rintro⟨k,O,I⟩;show W _ _ _ _ _ ⟨[(13,.d (.v (.int .i64 ((k:Nat):Int)))),(0,_),(12,_)],[],[],0⟩;refine ba 1 Z ?_;refine ae (cB (l:=bc s) (k:=k) Z (by simp[Ex.bA,bk]) O (fun b X hd M=>?_) (fun he hd=>?_));·
  rw[hd,List.all_cons] at I;refine ah (qs (ae (W.block (ba 2 Z ?_))));refine ae (aa (aZ 2 Z ?_));refine pu (eU aX Z Z Z Z (Int.natCast_nonneg _) (iG (by assumption))) Z ?_;refine pu (bm Z Z Z (BG ..) Z) Z ?_;refine pE Z (ab (qs (be Z (fun N=>?_) (fun N=>?_))));·
   refine ba 1 Z ?_;refine W.ret (bz (bo (dI (bz (bo (QF.br trivial Z ?_))))));simp only[norm,bW];grind[cY,oh]
  refine ah (ca (qs (cQ 2 Z ?_)));refine W.cr [] ⟨k+1,?_⟩ ?_ Z ?_ ⟨rfl,rfl,rfl,rfl,trivial⟩ ?_ trivial Z;·exact⟨M,by rw[←I];simp_all⟩
  ·dsimp only;omega
  ·repeat' first | exact trivial | refine⟨bJ (by assumption) (by assumption),?_⟩
  repeat' exact trivial
 rw[hd] at I;refine an (bT (bR (bP (qs (ba 1 Z ?_)))));refine W.ret (QF.br trivial Z ?_);simp only[norm,bW];grind[cY,oh]
end Go.Proofs.YtpiaiiopakafhaaGreatDoor
namespace Go.Proofs
open Go.Shelf
def Tryz.rV:Go.Shelf.Ren:=⟨fun | 169=>90 | n=>n,fun | 70=>147 | 9=>9 | 0=>0 | 72=>150 | 37=>148 | 127=>201 | 3=>3 | 5=>5 | n=>n,fun | n=>n⟩
theorem Tryz.FL:Go.Proofs.Lays.n169 Tryz.prog Tryz.rV:={
 mixed:=by kernel_rfl
 f169:=Tryz.func90.trans (congrArg some (by kernel_rfl))
 t0:=Tryz.underlying0
 a0:=Tryz.isAgg0
 z0:=Tryz.sizeOf0
 v0:=Tryz.zeroValue0
 t3:=Tryz.underlying3
 a3:=Tryz.isAgg3
 z3:=Tryz.sizeOf3
 v3:=Tryz.zeroValue3
 t9:=Tryz.underlying9
 a9:=Tryz.isAgg9
 z9:=Tryz.sizeOf9
 v9:=Tryz.zeroValue9
 t37:=Tryz.underlying148
 a37:=Tryz.isAgg148
 z37:=Tryz.sizeOf148
 v37:=Tryz.zeroValue148
 t70:=Tryz.underlying147
 a70:=Tryz.isAgg147
 z70:=Tryz.sizeOf147
 v70:=Tryz.zeroValue147
 t72:=Tryz.underlying150
 a72:=Tryz.isAgg150
 z72:=Tryz.sizeOf150
 v72:=Tryz.zeroValue150
 t127:=Tryz.underlying201
 a127:=Tryz.isAgg201
 z127:=Tryz.sizeOf201
 v127:=Tryz.zeroValue201 }
theorem Tryz.rQ:Builder.Extra Tryz.prog Tryz.rV:={
 sizeBuilder:=by kernel_rfl
 liesBuilder:=by kernel_rfl
 t5:=Tryz.underlying5
 a5:=Tryz.isAgg5
 z5:=Tryz.sizeOf5
 v5:=Tryz.zeroValue5
 infoByte:=by kernel_rfl
 cellsByte:=by kernel_rfl
 sizeByte:=by kernel_rfl
 neB5:=by decide }
open Go.RowKit in
theorem az (B b:Nat) (l:List UInt8) (w:World) (h:Lib.IsBuilder 150 5 B b (Lib.byteCells l) w) (I:B≤w.heap.size) :
 Calls Tryz.prog 90 #[.pointer (some ⟨b,0,none⟩)] w fun e w'=>e=.returned (.string ⟨l.toArray⟩)∧Below B w w':=Any.Builder_String_any Tryz.FL Tryz.rQ B b l w h I
def Tryz.w5:Go.Shelf.Ren:=⟨fun | 171=>76 | 243=>123 | 246=>163 | 283=>180 | 284=>181 | 285=>182 | 286=>183 | 129=>192 | 317=>191 | 318=>193 | 319=>194 | 320=>195 | 337=>202 | 338=>203 | n=>n,fun | 3=>3 | 9=>9 | 2=>2 | 4=>4 | 171=>219 | 0=>0 | 53=>220 | 37=>148 | 5=>5 | 173=>223 | 212=>230 | 51=>231 | 20=>20 | 213=>232 | 46=>233 | 232=>248 | 233=>249 | n=>n,fun | 17=>1 | 18=>4 | 19=>5 | n=>n⟩
theorem Tryz.Dw:Go.Proofs.LaysM.n171 Tryz.prog Tryz.w5:={
 mixed:=by kernel_rfl
 f129:=Tryz.func192.trans (congrArg some (by kernel_rfl))
 f171:=Tryz.func76.trans (congrArg some (by kernel_rfl))
 f243:=Tryz.func123.trans (congrArg some (by kernel_rfl))
 f246:=Tryz.func163.trans (congrArg some (by kernel_rfl))
 f283:=Tryz.func180.trans (congrArg some (by kernel_rfl))
 f284:=Tryz.func181.trans (congrArg some (by kernel_rfl))
 f285:=Tryz.func182.trans (congrArg some (by kernel_rfl))
 f286:=Tryz.func183.trans (congrArg some (by kernel_rfl))
 f317:=Tryz.func191.trans (congrArg some (by kernel_rfl))
 f318:=Tryz.func193.trans (congrArg some (by kernel_rfl))
 f319:=Tryz.func194.trans (congrArg some (by kernel_rfl))
 f320:=Tryz.func195.trans (congrArg some (by kernel_rfl))
 f337:=Tryz.func202.trans (congrArg some (by kernel_rfl))
 f338:=Tryz.func203.trans (congrArg some (by kernel_rfl))
 t0:=Tryz.underlying0
 a0:=Tryz.isAgg0
 z0:=Tryz.sizeOf0
 v0:=Tryz.zeroValue0
 t2:=Tryz.underlying2
 a2:=Tryz.isAgg2
 z2:=Tryz.sizeOf2
 v2:=Tryz.zeroValue2
 t3:=Tryz.underlying3
 a3:=Tryz.isAgg3
 z3:=Tryz.sizeOf3
 v3:=Tryz.zeroValue3
 t4:=Tryz.underlying4
 a4:=Tryz.isAgg4
 z4:=Tryz.sizeOf4
 v4:=Tryz.zeroValue4
 t5:=Tryz.underlying5
 a5:=Tryz.isAgg5
 z5:=Tryz.sizeOf5
 v5:=Tryz.zeroValue5
 t9:=Tryz.underlying9
 a9:=Tryz.isAgg9
 z9:=Tryz.sizeOf9
 v9:=Tryz.zeroValue9
 t20:=Tryz.underlying20
 a20:=Tryz.isAgg20
 z20:=Tryz.sizeOf20
 v20:=Tryz.zeroValue20
 t37:=Tryz.underlying148
 a37:=Tryz.isAgg148
 z37:=Tryz.sizeOf148
 v37:=Tryz.zeroValue148
 t46:=Tryz.underlying233
 a46:=Tryz.isAgg233
 z46:=Tryz.sizeOf233
 v46:=Tryz.zeroValue233
 t51:=Tryz.underlying231
 a51:=Tryz.isAgg231
 z51:=Tryz.sizeOf231
 v51:=Tryz.zeroValue231
 t53:=Tryz.underlying220
 a53:=Tryz.isAgg220
 z53:=Tryz.sizeOf220
 v53:=Tryz.zeroValue220
 t171:=Tryz.underlying219
 a171:=Tryz.isAgg219
 z171:=Tryz.sizeOf219
 v171:=Tryz.zeroValue219
 t173:=Tryz.underlying223
 a173:=Tryz.isAgg223
 z173:=Tryz.sizeOf223
 v173:=Tryz.zeroValue223
 t212:=Tryz.underlying230
 a212:=Tryz.isAgg230
 z212:=Tryz.sizeOf230
 v212:=Tryz.zeroValue230
 t213:=Tryz.underlying232
 a213:=Tryz.isAgg232
 z213:=Tryz.sizeOf232
 t232:=Tryz.underlying248
 a232:=Tryz.isAgg248
 z232:=Tryz.sizeOf248
 v232:=Tryz.zeroValue248
 t233:=Tryz.underlying249
 a233:=Tryz.isAgg249
 z233:=Tryz.sizeOf249
 v233:=Tryz.zeroValue249
 g17:=by kernel_rfl
 g18:=by kernel_rfl
 g19:=by kernel_rfl
 i0:=by kernel_rfl
 i2:=by kernel_rfl
 i3:=by kernel_rfl
 i4:=by kernel_rfl
 i5:=by kernel_rfl
 i9:=by kernel_rfl
 i20:=by kernel_rfl
 i37:=by kernel_rfl
 i46:=by kernel_rfl
 i51:=by kernel_rfl
 i53:=by kernel_rfl
 i171:=by kernel_rfl
 i173:=by kernel_rfl
 i212:=by kernel_rfl
 i232:=by kernel_rfl
 i233:=by kernel_rfl
 m17:=by kernel_rfl
 m18:=by kernel_rfl
 m19:=by kernel_rfl }
open Go.RowKit Go.Sort Go.Lib in
theorem aC (n:Int) (h0:-9223372036854775808≤n) (h1:n≤9223372036854775807) (w:World) (I:Lib.TabIs Tryz.prog w "internal/strconv.uint64pow10" .u64 Lib.pow10Tab) :
 Calls Tryz.prog 76 #[.int .i64 n] w fun e w'=>e=.returned (.string ⟨(Lib.itoa n).toArray⟩)∧∃ k os,w'=grow (w.drewN k) os:=Any.strconv_Itoa Tryz.Dw n h0 h1 w I
def Tryz.xV:Go.Shelf.Ren:=⟨fun | 172=>177 | 244=>189 | 245=>190 | 247=>197 | 279=>198 | 280=>199 | 281=>200 | 282=>201 | 287=>204 | 316=>205 | 171=>76 | 205=>206 | 321=>207 | 322=>208 | 243=>123 | 246=>163 | 283=>180 | 284=>181 | 285=>182 | 286=>183 | 129=>192 | 317=>191 | 318=>193 | 319=>194 | 320=>195 | 337=>202 | 338=>203 | n=>n,fun | 9=>9 | 3=>3 | 75=>196 | 76=>197 | 4=>4 | 5=>5 | 167=>236 | 37=>148 | 0=>0 | 85=>237 | 2=>2 | 168=>239 | 53=>220 | 175=>243 | 46=>233 | 210=>246 | 127=>201 | 145=>253 | 143=>251 | 21=>21 | 171=>219 | 173=>223 | 212=>230 | 51=>231 | 20=>20 | 213=>232 | 232=>248 | 233=>249 | 80=>152 | n=>n,fun | 15=>2 | 16=>3 | 17=>1 | 18=>4 | 19=>5 | n=>n⟩
theorem Tryz.sI:Go.Proofs.LaysC.n172 Tryz.prog Tryz.xV:={
 mixed:=by kernel_rfl
 f129:=Tryz.func192.trans (congrArg some (by kernel_rfl))
 f171:=Tryz.func76.trans (congrArg some (by kernel_rfl))
 f172:=Tryz.func177.trans (congrArg some (by kernel_rfl))
 f205:=Tryz.func206.trans (congrArg some (by kernel_rfl))
 f243:=Tryz.func123.trans (congrArg some (by kernel_rfl))
 f244:=Tryz.func189.trans (congrArg some (by kernel_rfl))
 f245:=Tryz.func190.trans (congrArg some (by kernel_rfl))
 f246:=Tryz.func163.trans (congrArg some (by kernel_rfl))
 f247:=Tryz.func197.trans (congrArg some (by kernel_rfl))
 f279:=Tryz.func198.trans (congrArg some (by kernel_rfl))
 f280:=Tryz.func199.trans (congrArg some (by kernel_rfl))
 f281:=Tryz.func200.trans (congrArg some (by kernel_rfl))
 f282:=Tryz.func201.trans (congrArg some (by kernel_rfl))
 f283:=Tryz.func180.trans (congrArg some (by kernel_rfl))
 f284:=Tryz.func181.trans (congrArg some (by kernel_rfl))
 f285:=Tryz.func182.trans (congrArg some (by kernel_rfl))
 f286:=Tryz.func183.trans (congrArg some (by kernel_rfl))
 f287:=Tryz.func204.trans (congrArg some (by kernel_rfl))
 f316:=Tryz.func205.trans (congrArg some (by kernel_rfl))
 f317:=Tryz.func191.trans (congrArg some (by kernel_rfl))
 f318:=Tryz.func193.trans (congrArg some (by kernel_rfl))
 f319:=Tryz.func194.trans (congrArg some (by kernel_rfl))
 f320:=Tryz.func195.trans (congrArg some (by kernel_rfl))
 f321:=Tryz.func207.trans (congrArg some (by kernel_rfl))
 f322:=Tryz.func208.trans (congrArg some (by kernel_rfl))
 f337:=Tryz.func202.trans (congrArg some (by kernel_rfl))
 f338:=Tryz.func203.trans (congrArg some (by kernel_rfl))
 t0:=Tryz.underlying0
 a0:=Tryz.isAgg0
 z0:=Tryz.sizeOf0
 v0:=Tryz.zeroValue0
 t2:=Tryz.underlying2
 a2:=Tryz.isAgg2
 z2:=Tryz.sizeOf2
 v2:=Tryz.zeroValue2
 t3:=Tryz.underlying3
 a3:=Tryz.isAgg3
 z3:=Tryz.sizeOf3
 v3:=Tryz.zeroValue3
 t4:=Tryz.underlying4
 a4:=Tryz.isAgg4
 z4:=Tryz.sizeOf4
 v4:=Tryz.zeroValue4
 t5:=Tryz.underlying5
 a5:=Tryz.isAgg5
 z5:=Tryz.sizeOf5
 v5:=Tryz.zeroValue5
 t9:=Tryz.underlying9
 a9:=Tryz.isAgg9
 z9:=Tryz.sizeOf9
 v9:=Tryz.zeroValue9
 t20:=Tryz.underlying20
 a20:=Tryz.isAgg20
 z20:=Tryz.sizeOf20
 v20:=Tryz.zeroValue20
 t21:=Tryz.underlying21
 a21:=Tryz.isAgg21
 z21:=Tryz.sizeOf21
 v21:=Tryz.zeroValue21
 t37:=Tryz.underlying148
 a37:=Tryz.isAgg148
 z37:=Tryz.sizeOf148
 v37:=Tryz.zeroValue148
 t46:=Tryz.underlying233
 a46:=Tryz.isAgg233
 z46:=Tryz.sizeOf233
 v46:=Tryz.zeroValue233
 t51:=Tryz.underlying231
 a51:=Tryz.isAgg231
 z51:=Tryz.sizeOf231
 v51:=Tryz.zeroValue231
 t53:=Tryz.underlying220
 a53:=Tryz.isAgg220
 z53:=Tryz.sizeOf220
 v53:=Tryz.zeroValue220
 t75:=Tryz.underlying196
 a75:=Tryz.isAgg196
 z75:=Tryz.sizeOf196
 v75:=Tryz.zeroValue196
 t76:=Tryz.underlying197
 a76:=Tryz.isAgg197
 z76:=Tryz.sizeOf197
 v76:=Tryz.zeroValue197
 t85:=Tryz.underlying237
 a85:=Tryz.isAgg237
 z85:=Tryz.sizeOf237
 v85:=Tryz.zeroValue237
 t127:=Tryz.underlying201
 a127:=Tryz.isAgg201
 z127:=Tryz.sizeOf201
 v127:=Tryz.zeroValue201
 t143:=Tryz.underlying251
 a143:=Tryz.isAgg251
 z143:=Tryz.sizeOf251
 v143:=Tryz.zeroValue251
 t145:=Tryz.underlying253
 a145:=Tryz.isAgg253
 z145:=Tryz.sizeOf253
 v145:=Tryz.zeroValue253
 t167:=Tryz.underlying236
 a167:=Tryz.isAgg236
 z167:=Tryz.sizeOf236
 v167:=Tryz.zeroValue236
 t168:=Tryz.underlying239
 a168:=Tryz.isAgg239
 z168:=Tryz.sizeOf239
 v168:=Tryz.zeroValue239
 t171:=Tryz.underlying219
 a171:=Tryz.isAgg219
 z171:=Tryz.sizeOf219
 v171:=Tryz.zeroValue219
 t173:=Tryz.underlying223
 a173:=Tryz.isAgg223
 z173:=Tryz.sizeOf223
 v173:=Tryz.zeroValue223
 t175:=Tryz.underlying243
 a175:=Tryz.isAgg243
 z175:=Tryz.sizeOf243
 v175:=Tryz.zeroValue243
 t210:=Tryz.underlying246
 a210:=Tryz.isAgg246
 z210:=Tryz.sizeOf246
 v210:=Tryz.zeroValue246
 t212:=Tryz.underlying230
 a212:=Tryz.isAgg230
 z212:=Tryz.sizeOf230
 v212:=Tryz.zeroValue230
 t213:=Tryz.underlying232
 a213:=Tryz.isAgg232
 z213:=Tryz.sizeOf232
 t232:=Tryz.underlying248
 a232:=Tryz.isAgg248
 z232:=Tryz.sizeOf248
 v232:=Tryz.zeroValue248
 t233:=Tryz.underlying249
 a233:=Tryz.isAgg249
 z233:=Tryz.sizeOf249
 v233:=Tryz.zeroValue249
 g15:=by kernel_rfl
 g16:=by kernel_rfl
 g17:=by kernel_rfl
 g18:=by kernel_rfl
 g19:=by kernel_rfl
 t80:=Tryz.underlying152
 a80:=Tryz.isAgg152
 z80:=Tryz.sizeOf152
 v80:=Tryz.zeroValue152
 i0:=by kernel_rfl
 i2:=by kernel_rfl
 i3:=by kernel_rfl
 i4:=by kernel_rfl
 i5:=by kernel_rfl
 i9:=by kernel_rfl
 i20:=by kernel_rfl
 i21:=by kernel_rfl
 i37:=by kernel_rfl
 i46:=by kernel_rfl
 i51:=by kernel_rfl
 i53:=by kernel_rfl
 i75:=by kernel_rfl
 i76:=by kernel_rfl
 i80:=by kernel_rfl
 i85:=by kernel_rfl
 i127:=by kernel_rfl
 i143:=by kernel_rfl
 i145:=by kernel_rfl
 i167:=by kernel_rfl
 i168:=by kernel_rfl
 i171:=by kernel_rfl
 i173:=by kernel_rfl
 i175:=by kernel_rfl
 i210:=by kernel_rfl
 i212:=by kernel_rfl
 i232:=by kernel_rfl
 i233:=by kernel_rfl
 m15:=by kernel_rfl
 m16:=by kernel_rfl
 m17:=by kernel_rfl
 m18:=by kernel_rfl
 m19:=by kernel_rfl
 c0:=by kernel_rfl
 c2:=by kernel_rfl
 c3:=by kernel_rfl
 c4:=by kernel_rfl
 c5:=by kernel_rfl
 c9:=by kernel_rfl
 c20:=by kernel_rfl
 c21:=by kernel_rfl
 c37:=by kernel_rfl
 c46:=by kernel_rfl
 c51:=by kernel_rfl
 c53:=by kernel_rfl
 c75:=by kernel_rfl
 c76:=by kernel_rfl
 c80:=by kernel_rfl
 c85:=by kernel_rfl
 c127:=by kernel_rfl
 c143:=by kernel_rfl
 c145:=by kernel_rfl
 c167:=by kernel_rfl
 c168:=by kernel_rfl
 c171:=by kernel_rfl
 c173:=by kernel_rfl
 c175:=by kernel_rfl
 c210:=by kernel_rfl
 c212:=by kernel_rfl
 c213:=by kernel_rfl
 c232:=by kernel_rfl
 c233:=by kernel_rfl }
open Go.RowKit in
theorem aA (s:ByteArray) (I:s.size≤9223372036854775806) (v:Int) (h:Lib.atoiAll s.data.toList=.ok v) (w:World) :
 Calls Tryz.prog 177 #[.string s] w fun e w'=>e=.returned (.tuple #[.int .i64 v,.nilIface])∧(w'=w∨∃ t,w'=Lib.bytesWorld w 5 t):=Any.strconv_Atoi_ok Tryz.sI s I v h w
open Go.RowKit in
theorem aw (s:ByteArray) (I:s.size≤281474976710656) (h:Lib.atoiAll s.data.toList=Lib.atoiAll []) (tp:TypeId) (p:Value) (w:World) (J:w.var? Tryz.prog "strconv.ErrSyntax" = some #[.iface tp p]) :
 Calls Tryz.prog 177 #[.string s] w fun e w'=>∃ N,e=.returned (.tuple #[.int .i64 0,.iface 239 (.pointer (some ⟨N,0,none⟩))])∧w.heap.size≤N∧w'.heap[N]? = some (.cells #[.string ⟨#[65,116,111,105]⟩,.string s,.iface tp p] 246 (0,0))∧Below w.heap.size w w':=Any.strconv_Atoi_syntax_var Tryz.sI s I h tp p w J
open Go.RowKit in
theorem ax (s:ByteArray) (I:s.size≤281474976710656) (h:Lib.atoiAll s.data.toList=.range) (tp:TypeId) (p:Value) (w:World) (J:w.var? Tryz.prog "strconv.ErrRange" = some #[.iface tp p]) :
 Calls Tryz.prog 177 #[.string s] w fun e w'=>∃ N,e=.returned (.tuple #[.int .i64 (Lib.atoiSat s.data.toList),.iface 239 (.pointer (some ⟨N,0,none⟩))])∧w.heap.size≤N∧w'.heap[N]? = some (.cells #[.string ⟨#[65,116,111,105]⟩,.string s,.iface tp p] 246 (0,0))∧Below w.heap.size w w':=Any.strconv_Atoi_range_var Tryz.sI s I h tp p w J
end Go.Proofs
namespace Go.Proofs.YtpiaiiopakafhaaGreatDoor
open Go.Ab Go.Tb
set_option maxRecDepth 10000
set_option maxHeartbeats 1000000
attribute [local irreducible] W WO Pu QS QB QL QF QV cu CH QE
theorem kn {a b:ByteArray} (h:a.data.toList=b.data.toList):a=b:=by cases a;cases b;simp at h;exact congrArg _ h
theorem wk {n:Int} (h:n.natAbs < 10 ^ 20):(dZ n).size≤21:=by
 have e:(dZ n).size=(Lib.itoa n).length:=Array.length_toList.symm;rw[e];rcases Int.lt_or_le n 0 with I | I
 ·rw[kb I,List.length_cons];have:=pJ n.natAbs 19 h;omega
 rw[ke I];have:=pJ n.toNat 19 (by omega);omega
theorem kp (n:Int) (ok:Bool):bq Tryz.prog 178 [.d (.v (.int .i64 n)),.d (.v (.bool ok))] (.tup [.d (.v (.int .i64 (if ok && eQ n then n else 0))),.d (.v (.bool (ok && eQ n)))]) 0:=by
 refine bq.bZ (n:=14) (ts:=[4,5]) Tryz.func178 (by kernel_rfl) Z Tryz.ntmps178 Tryz.results178 Z Z fun C hC J=>?_;refine ba 2 Z ?_;iterate 2 refine ae ?_
 apply bL;(case hb=>rfl);·repeat' first | refine cc Z Z Z | refine bH Z Z ?_ | refine bC Z Z Z Z ?_ | refine pE Z ?_ | refine ab ?_ | refine pu (bm Z Z Z (EZ ..) Z) Z ?_ | (apply b8;(case hj=>rfl);(case hl=>rfl))
 refine qs (be Z (fun I=>?_) (fun I=>?_));·
  refine ba 2 Z ?_;refine W.ret (bo (QF.br trivial Z ?_));cases ok <;> cases h:eQ n <;> simp_all[norm,kG,bW]
 refine ah (qs (ba 3 Z ?_));refine W.ret (QF.br trivial Z ?_);cases ok <;> cases h:eQ n <;> simp_all[norm,kG,bW]
theorem Ch {w:World} (hu:ly Tryz.prog w):oM Tryz.prog w:=hu.num (fun _ h=>h)
theorem Gn {n:Int} (h:n.natAbs < 10 ^ 20):dd (.string (dZ n))=true:=by have:=wk h;exact decide_eq_true (by simp only[maxLen];omega)
theorem GA {n:Int} (h0:-9223372036854775808≤n) (h1:n≤9223372036854775807):n.natAbs < 10 ^ 20:=by
 have hp:(10:Nat) ^ 20=100000000000000000000:=by decide
 omega
open Go.RowKit in
theorem Gk (n:Int) (h0:-9223372036854775808≤n) (h1:n≤9223372036854775807):bq Tryz.prog 76 [.d (.v (.int .i64 n))] (.d (.v (.string (dZ n)))) 0:=
 bq.vU (xs:=[.int .i64 n]) ⟨_,Tryz.func76,by kernel_rfl,by kernel_rfl⟩ fun w hu _=>(aC n h0 h1 w (Ch hu).1).mono fun e w' ⟨he,k,os,hw⟩=>⟨_,he,hw▸Lib.below_grow _ w (Nat.le_refl _) k os,fun _ _ _=>.d (.v _ (Gn (GA h0 h1)))⟩
theorem oy (n:Int) (h0:-9223372036854775808≤n) (h1:n≤9223372036854775807):bq Tryz.prog 25 [.d (.v (.int .i64 n))] (.d (.v (.string (dZ n)))) 0:=by refine bq.bZ (n:=5) (ts:=[2]) Tryz.func25 (by kernel_rfl) Z Tryz.ntmps25 Tryz.results25 Z Z fun C hC I=>?_;refine ba 1 Z ?_;refine ae (aa (pE Z (pu (bm Z Z Z ((Gk _ (by assumption) (by assumption))) Z) Z ?_)));refine pE Z (ab (qs (W.ret (QF.br trivial Z ?_))));rfl
def AB (s:ByteArray):A:=
 match Lib.atoiAll s.data.toList with
 | .ok v=>.tup [.d (.v (.int .i64 v)),.d (.v .nilIface)]
 | .range=>.tup [.d (.v (.int .i64 (Lib.atoiSat s.data.toList))),.ni]
 | _=>.tup [.d (.v (.int .i64 0)),.ni]
theorem Hv (l:List UInt8):dd (.int .i64 (Lib.atoiSat l))=true:=by unfold Lib.atoiSat;split <;> (try split) <;> decide
open Go.RowKit in
theorem Fs (s:ByteArray) (hs:s.size≤281474976710656):bq Tryz.prog 177 [.d (.v (.string s))] (AB s) 0:=
 bq.vU (xs:=[.string s]) ⟨_,Tryz.func177,by kernel_rfl,by kernel_rfl⟩ fun w hu _=>by
  obtain⟨_,⟨t,p,h2⟩,t',I,h3⟩:=Ch hu;unfold AB
  cases h:Lib.atoiAll s.data.toList with
  | ok v=>
   have hb:=Lib.atoiAll_bounds h;refine(aA s (by omega) v h w).mono fun e w' ⟨he,hw⟩=>⟨_,he,?_,fun _ _ _=>uY (.d (.v _ ?_)) (.d (.v _ Z))⟩;·
    rcases hw with rfl | ⟨t,rfl⟩
    ·exact Below.refl _ _
    exact Joins.below_bytesWorld _ w _ _ (Nat.le_refl _)
   simp[dd,IntKind.min,IntKind.max,IntKind.signed,IntKind.bits];omega
  | range=>exact(ax s hs h t' I w h3).mono fun e w' ⟨N,he,_,_,hb⟩=>⟨_,he,hb,fun _ _ _=>uY (.d (.v _ (Hv _))) (.ni _ _)⟩
  | _=>exact(aw s hs h t p w h2).mono fun e w' ⟨N,he,_,_,hb⟩=>⟨_,he,hb,fun _ _ _=>uY (.d (.v _ (by decide))) (.ni _ _)⟩
theorem FH (s:ByteArray):cY s=0∨cY s=3:=by unfold cY;split <;> simp
theorem Cg (l:List ByteArray):bq Tryz.prog 150 [.d (.sl (Ck l))] (.d (.v (.int .i64 (gR l)))) 0:=by
 refine bq.bZ (n:=21) (ts:=[2]) Tryz.func150 (by kernel_rfl) Z Tryz.ntmps150 Tryz.results150 Z Z fun C hC hG=>?_;refine ba 1 Z ?_;refine ae (ba 3 Z ?_);refine be Z (fun O=>?_) (fun O=>?_);·
  have J:gR l=7:=by unfold gR;rw[if_pos (by simp at O;omega)]
  refine ba 1 Z ?_;refine W.ret (bo (QF.br trivial Z ?_));rw[J];rfl
 have J:gR l=if l.any (fun s=>decide (cY s≠0)) then 3 else 0:=by unfold gR;rw[if_neg (by simp at O;omega)]
 refine ah (qs (ae (ba 3 Z ?_)));refine W.block (W.len (t:=0) Z Z (fun hlen=>?_));try simp only[List.length_map,Ex.bA] at hlen
 refine W.b7 (ι:={x:Nat // match x with | k=>k≤l.length∧(l.drop k).any (fun s=>decide (cY s≠0))=l.any (fun s=>decide (cY s≠0))})
  (fun x=>match x.1 with | k=>[(11,.d (.v (.int .i64 ((k:Nat):Int))))]) [(9,_),(10,_)]
  (fun x=>match x.1 with | k=>[]) [] [] 0 (fun x=>match x.1 with | k=>l.length - k)
  [] ⟨0,?_⟩ Z ?_ ⟨rfl,rfl,rfl,rfl,trivial⟩ ?_ trivial Z ?_
 ·exact⟨Nat.zero_le _,rfl⟩
 ·repeat' constructor
 ·repeat' exact trivial
 rintro⟨k,X,I⟩;show W _ _ _ _ _ ⟨[(11,.d (.v (.int .i64 ((k:Nat):Int)))),(9,_),(10,_)],[],[],0⟩;refine ba 1 Z ?_;refine ae (cB (l:=l) (k:=k) Z (by simp[Ex.bA,bk]) X (fun s hx hd U=>?_) (fun he hd=>?_));·
  rw[hd,List.any_cons] at I;refine ah (qs (ae (W.block (ae (aa (pu (indexAddr aX Z Z Z Z Z Z (Int.natCast_nonneg _) (bN hx) Z) Z ?_))))));refine aZ 2 Z ?_;refine ab (qs (ae (aa (pE Z (pu (bm Z Z Z (oN s) Z) Z ?_)))));refine pE Z (ab (qs (ba 2 Z ?_)));refine be Z (fun N=>?_) (fun N=>?_);·
   have M:cY s=3:=by rcases FH s with q | q <;> simp_all
   rw[M] at I;refine ba 2 Z ?_;refine W.ret (bz (bo (dI (bz (bo (QF.br trivial Z ?_))))));rw[J,←I];simp[norm,bW,M]
  have M:cY s=0:=by simpa using N
  rw[M] at I;refine ah (ca (qs (cQ 2 Z ?_)));refine W.cr [] ⟨k+1,?_⟩ ?_ Z ?_ ⟨rfl,rfl,rfl,rfl,trivial⟩ ?_ trivial Z;·exact⟨U,by simpa using I⟩
  ·dsimp only;omega
  ·repeat' first | exact trivial | refine⟨bJ (by assumption) (by assumption),?_⟩
  repeat' exact trivial
 rw[hd,List.any_nil] at I;refine an (bT (bR (bP (qs (ba 1 Z ?_)))));refine W.ret (QF.br trivial Z ?_);rw[J,←I];rfl
theorem Ee:bq Tryz.prog 149 [] (.d (.sl (ya.map wF.c))) 0:=by refine bq.bZ (n:=15) (ts:=[0]) Tryz.func149 (by kernel_rfl) Z Tryz.ntmps149 Tryz.results149 Z Z fun C hC I=>?_;refine ba 1 Z ?_;refine ae (aa (pu (build aX Z Z Z Z) Z ?_));refine pu (build aX Z Z Z Z) Z ?_;refine pu (build aX Z Z Z Z) Z ?_;refine pu (build aX Z Z Z Z) Z ?_;refine pu (build aX Z Z Z Z) Z ?_;refine pu (build aX Z Z Z Z) Z ?_;refine pu (build aX Z Z Z Z) Z ?_;refine pu (build aX Z Z Z Z) Z ?_;refine pu (build aX Z Z Z Z) Z ?_;refine pu (build aX Z Z Z Z) Z ?_;refine pu (build aX Z Z Z Z) Z ?_;refine pu (build aX Z Z Z Z) Z ?_;refine pu (build aX Z Z Z Z) Z ?_;refine pu (b9 aX Z Z Z Z Z Z Z Z Z) Z ?_;refine pE Z (ab (qs (W.ret (QF.br trivial Z ?_))));rfl
theorem GY {k:Int} (h1:1≤k) (h2:k < 13):ya[k.toNat]? = some (dq k):=by rcases kinds h1 h2 with h | h | h | h | h | h | h | h | h | h | h | h <;> subst h <;> rfl
theorem Ci (k:Int):bq Tryz.prog 100 [.d (.v (.int .i64 k))] (.tup [.ag (dq k).c,.d (.v (.bool (pH k)))]) 0:=by
 refine bq.dQ aX (n:=19) (rs:=[.cell 2 160,.tmp 3]) Tryz.func100 (by kernel_rfl) Z Tryz.ntmps100 Tryz.results100 Z fun C hC N=>?_;refine ae (aa (bK aX Z Z Z (pE Z (ab (qs (ae (aa (pu (bm Z Z Z (Ee ..) Z) Z ?_))))))));refine pE Z (ab (qs ?_));iterate 2 refine ae ?_
 apply bL;(case hb=>rfl);·repeat' first | refine cc Z Z Z | refine bH Z Z ?_ | refine bC Z Z Z Z ?_ | refine pE Z ?_ | refine ab ?_ | (apply b8;(case hj=>rfl);(case hl=>rfl))
 refine qs (be Z (fun I=>?_) (fun I=>?_));·
  have J:dq k=Av∧pH k=false:=by
   have:k < 1∨13≤k:=by simp at I;revert I;show _→_;intro h;simpa [ya] using h
   exact⟨by unfold dq;rw[if_pos this],by simp[pH];omega⟩
  refine ae (aa (pu (build aX Z Z Z Z) Z ?_));refine bl aX Z Z Z Z Z Z Z Z (pE Z (ab (qs (W.ret (bo (QV.br aX trivial Z ?_))))));rw[J.1,J.2];rfl
 have M:1≤k∧k < 13:=by simp at I;simpa [ya] using I
 have J:pH k=true:=by simp[pH];omega
 refine ah (qs (ae (aa (aZ 2 Z ?_))));refine pu (indexAddr aX Z Z Z Z Z Z (by omega) (bN (GY M.1 M.2)) Z) Z ?_;refine aZ 1 Z ?_;refine bl aX Z Z Z Z Z Z Z Z (pE Z (ab (qs (W.ret (QV.br aX trivial Z ?_)))));rw[J];rfl
theorem EH (f:wF) (e:Ev):bq Tryz.prog 101 [.ag f.c,.ag e.c] (.d (.v (.int .i64 (mB f e)))) 0:=by
 refine bq.bZ (n:=13) (ts:=[4]) Tryz.func101 (by kernel_rfl) Z Tryz.ntmps101 Tryz.results101 Z Z fun C hC J=>?_;refine ae (aa (cG Z Z Z (cG Z Z Z (pE Z (ab (qs (ae (ba 2 Z ?_))))))));refine be Z (fun I=>?_) (fun I=>?_);·
  refine ae (aa (aZ 2 Z ?_));refine pu (bm Z Z Z (oN ..) Z) Z ?_;refine pE Z (ab (qs (W.ret (bo (QF.br trivial Z ?_)))));simp only[norm,bW];grind[mB]
 refine ah (qs (ae (aa (aZ 2 Z ?_))));refine pu (bm Z Z Z (Cg ..) Z) Z ?_;refine pE Z (ab (qs (W.ret (QF.br trivial Z ?_))));simp only[norm,bW];grind[mB]
theorem Ed (a b:List ByteArray):bq Tryz.prog 141 [.d (.sl (Ck a)),.d (.sl (Ck b))] (.d (.v (.bool (decide (a=b))))) 0:=by
 refine bq.bZ (n:=26) (ts:=[4]) Tryz.func141 (by kernel_rfl) Z Tryz.ntmps141 Tryz.results141 Z Z fun C hC hG=>?_;refine ba 1 Z ?_;refine ae (ba 5 Z ?_);refine be Z (fun I=>?_) (fun I=>?_);·
  have O:decide (a=b)=false:=by simp at I ⊢;rintro rfl;simp at I
  refine ba 1 Z ?_;refine W.ret (bo (QF.br trivial Z ?_));rw[O];rfl
 have hl:a.length=b.length:=by simp at I;omega
 refine ah (qs (ae (ba 3 Z ?_)));refine W.block (W.len (t:=0) Z Z (fun hlen=>?_));try simp only[List.length_map,Ex.bA] at hlen
 refine W.b7 (ι:={x:Nat // match x with | k=>k≤a.length∧decide (a.drop k=b.drop k)=decide (a=b)})
  (fun x=>match x.1 with | k=>[(13,.d (.v (.int .i64 ((k:Nat):Int))))]) [(0,_),(1,_),(12,_)]
  (fun x=>match x.1 with | k=>[]) [] [] 0 (fun x=>match x.1 with | k=>a.length - k)
  [] ⟨0,?_⟩ Z ?_ ⟨rfl,rfl,rfl,rfl,rfl,rfl,trivial⟩ ?_ trivial Z ?_
 ·exact⟨Nat.zero_le _,rfl⟩
 ·repeat' constructor
 ·repeat' exact trivial
 rintro⟨k,hk,J⟩;show W _ _ _ _ _ ⟨[(13,.d (.v (.int .i64 ((k:Nat):Int)))),(0,_),(1,_),(12,_)],[],[],0⟩;refine ba 1 Z ?_;refine ae (cB (l:=a) (k:=k) Z (by simp[Ex.bA,bk]) hk (fun x hx hd U=>?_) (fun he hd=>?_));·
  obtain⟨y,hy,X⟩:=yb (l:=b) (k:=k) (by omega);rw[hd,X] at J;refine ah (qs (ae (W.block (ba 2 Z ?_))));refine ae (W.fC aX (by kernel_rfl) ?_);iterate 2 refine bF (ev aX Z) Z ?_
  refine bF (indexAddr aX Z Z Z Z Z Z (Int.natCast_nonneg _) (bN hx) Z) Z ?_;refine bF (ev aX Z) Z ?_;iterate 2 refine bF (ev aX Z) Z ?_
  refine bF (indexAddr aX Z Z Z Z Z Z (Int.natCast_nonneg _) (bN hy) Z) Z ?_;refine bF (ev aX Z) Z ?_;refine bF (ev aX Z) Z ?_;refine aq ?_;refine qs (be Z (fun M=>?_) (fun M=>?_));·
   have N:x≠y:=by rintro rfl;simp at M
   have O:decide (a=b)=false:=by rw[←J];simp[N]
   refine ba 1 Z ?_;refine W.ret (bz (bo (dI (bz (bo (QF.br trivial Z ?_))))));rw[O];rfl
  have N:x=y:=by simpa using M
  refine ah (ca (qs (cQ 2 Z ?_)));refine W.cr [] ⟨k+1,?_⟩ ?_ Z ?_ ⟨rfl,rfl,rfl,rfl,rfl,rfl,trivial⟩ ?_ trivial Z;·
   refine⟨U,?_⟩;rw[←J,N];simp
  ·dsimp only;omega
  ·repeat' first | exact trivial | refine⟨bJ (by assumption) (by assumption),?_⟩
  repeat' exact trivial
 rw[hd,dropEnd (l:=b) (by omega)] at J;refine an (bT (bR (bP (qs (ba 1 Z ?_)))));refine W.ret (QF.br trivial Z ?_);rw[←J];rfl
def De (a b:Ev):Bool:=decide (a.time=b.time) && decide (a.kind=b.kind) && decide (a.name=b.name) && decide (a.n=b.n) && decide (a.m=b.m) && decide (a.stack=b.stack)
theorem Gt (a b:Ev):bq Tryz.prog 94 [.ag a.c,.ag b.c] (.d (.v (.bool (De a b)))) 0:=by
 refine bq.bZ (n:=45) (ts:=[4]) Tryz.func94 (by kernel_rfl) Z Tryz.ntmps94 Tryz.results94 Z Z fun C hC I=>?_;refine ae (aa (cG Z Z Z (cG Z Z Z (pE Z (ab (qs (ae ?_)))))));apply bL;(case hb=>rfl);·repeat' first | refine cc Z Z Z | refine bH Z Z ?_ | refine bC Z Z Z Z ?_ | refine pE Z ?_ | refine pu (bm Z Z Z (Ed ..) Z) Z ?_ | refine ab ?_ | (apply b8;(case hj=>rfl);(case hl=>rfl))
 refine qs (W.ret (QF.br trivial Z ?_));simp only[norm,bW,De];grind
theorem wa (e:Ev):bq Tryz.prog 59 [.ag e.c] (.d (.v (.int .i64 (dN e)))) 0:=by
 refine bq.bZ (n:=127) (ts:=[2]) Tryz.func59 (by kernel_rfl) Z Tryz.ntmps59 Tryz.results59 Z Z fun C hC X=>?_;refine ae (aa (cG Z Z Z (pE Z (ab (qs ?_)))));iterate 2 refine ae ?_
 apply bL;(case hb=>rfl);·repeat' first | refine cc Z Z Z | refine bH Z Z ?_ | refine bC Z Z Z Z ?_ | refine pE Z ?_ | refine ab ?_ | (apply b8;(case hj=>rfl);(case hl=>rfl))
 refine qs (be Z (fun J=>?_) (fun J=>?_));·
  refine ba 1 Z ?_;refine W.ret (bo (QF.br trivial Z ?_));simp only[norm,bW];grind[dN]
 refine ah (qs (ae (aa (aZ 2 Z ?_))));refine pu (bm Z Z Z (Ci ..) Z) Z ?_;refine aZ 3 Z ?_;refine bK aX Z Z Z (bl aX Z Z Z Z Z Z Z Z (pE Z (ab (qs ?_))));iterate 2 refine ae ?_
 apply bL;(case hb=>rfl);·repeat' first | refine cc Z Z Z | refine bH Z Z ?_ | refine bC Z Z Z Z ?_ | refine oT Z Z Z ?_ | refine pE Z ?_ | refine ab ?_ | (apply b8;(case hj=>rfl);(case hl=>rfl))
 refine qs (be Z (fun M=>?_) (fun M=>?_));·
  refine ba 1 Z ?_;refine W.ret (bo (QF.br trivial Z ?_));simp only[norm,bW];grind[dN]
 refine ah (qs ?_);iterate 2 refine ae ?_
 refine aa (aZ 2 Z ?_);refine pu (bm Z Z Z (EH ..) Z) Z ?_;refine pE Z (ab (qs (ba 2 Z ?_)));refine be Z (fun N=>?_) (fun N=>?_);·
  refine ba 2 Z ?_;refine W.ret (bo (QF.br trivial Z ?_));simp only[norm,bW];grind[dN]
 refine ah (qs (ae (W.block (ae ?_))));apply bL;(case hb=>rfl);·repeat' first | refine cc Z Z Z | refine bH Z Z ?_ | refine bC Z Z Z Z ?_ | refine oT Z Z Z ?_ | refine pE Z ?_ | refine ab ?_ | (apply b8;(case hj=>rfl);(case hl=>rfl))
 refine qs (be Z (fun O=>?_) (fun O=>?_));·
  refine ba 1 Z ?_;refine W.ret (bz (bo (QF.br trivial Z ?_)));simp only[norm,bW];grind[dN]
 refine ae ?_;apply bL;(case hb=>rfl);·repeat' first | refine cc Z Z Z | refine bH Z Z ?_ | refine bC Z Z Z Z ?_ | refine pE Z ?_ | refine ab ?_ | (apply b8;(case hj=>rfl);(case hl=>rfl))
 refine qs (be Z (fun U=>?_) (fun U=>?_));·
  refine ba 1 Z ?_;refine W.ret (bz (bo (QF.br trivial Z ?_)));simp only[norm,bW];grind[dN]
 refine ae ?_;apply bL;(case hb=>rfl);·repeat' first | refine cc Z Z Z | refine bH Z Z ?_ | refine bC Z Z Z Z ?_ | refine oT Z Z Z ?_ | refine pE Z ?_ | refine ab ?_ | (apply b8;(case hj=>rfl);(case hl=>rfl))
 refine qs (be Z (fun I=>?_) (fun I=>?_));·
  refine ba 1 Z ?_;refine W.ret (bz (bo (QF.br trivial Z ?_)));simp only[norm,bW];grind[dN]
 refine ah (ca (qs (ba 1 Z ?_)));refine W.ret (QF.br trivial Z ?_);simp only[norm,bW];grind[dN]
theorem Cn (s:ByteArray) (v:Int) (h:Lib.atoiAll s.data.toList=.ok v):gV s=(if (if dZ v=s then true else false) && eQ v then (v,true) else (0,false)):=by unfold gV;rw[h];by_cases h1:dZ v=s <;> by_cases h2:eQ v=true <;> simp[h1,h2]
theorem C4 (l:List UInt8):-9223372036854775808≤Lib.atoiSat l∧Lib.atoiSat l≤9223372036854775807:=by unfold Lib.atoiSat;split <;> decide
theorem wrap_u8 {x:Int} (h:0≤x∧x≤255):IntKind.u8.wrap x=x:=IntWalk.u8_in x h
theorem ir (s:ByteArray) (hs:s.size≤281474976710656):bq Tryz.prog 160 [.d (.v (.string s))] (.tup [.d (.v (.int .i64 (gV s).1)),.d (.v (.bool (gV s).2))]) 0:=by
 have I:=Fs s hs;unfold AB at I
 cases h:Lib.atoiAll s.data.toList with
 | ok v=>
  rw[h] at I;have hb:=Lib.atoiAll_bounds h;have hp:=Cn s v h;refine bq.bZ (n:=23) (ts:=[2,3]) Tryz.func160 (by kernel_rfl) Z Tryz.ntmps160 Tryz.results160 Z Z fun C hC J=>?_;refine ba 2 Z ?_;refine ae (aa (pE Z (pu (bm Z Z Z I Z) Z ?_)));refine aZ 5 Z ?_;refine ab (qs (ae (aa (aZ 2 Z ?_))));refine pu (Iw Z (by kernel_rfl)) Z ?_;refine pE Z (nl Z Z (fun _=>?_) (fun _=>?_));·
   refine bH Z Z (pE Z (bH Z Z (pu (bm Z Z Z (oy v hb.1 hb.2) Z) Z ?_)));refine bH Z Z (pE Z (bH Z Z (aZ 2 Z ?_)));refine pu (bm Z Z Z (kp ..) Z) Z ?_;refine aZ 4 Z ?_;refine ab (qs (W.ret (QF.br trivial Z ?_)))
   (rw[hp];simp only[norm,kG,bW];by_cases h1:dZ v=s <;> by_cases h2:eQ v=true <;> simp[h1,h2])
  iterate 4 refine bC Z Z Z Z ?_
  refine pE Z (pu (bm Z Z Z (kp ..) Z) Z ?_);refine aZ 4 Z ?_;refine ab (qs (W.ret (QF.br trivial Z ?_)));first | contradiction | (rw[hp];simp only[norm,kG,bW];by_cases h1:dZ v=s <;> by_cases h2:eQ v=true <;> simp[h1,h2])
 | range=>
  rw[h] at I;have hp:gV s=(0,false):=by unfold gV;rw[h]
  refine bq.bZ (n:=23) (ts:=[2,3]) Tryz.func160 (by kernel_rfl) Z Tryz.ntmps160 Tryz.results160 Z Z fun C hC J=>?_;refine ba 2 Z ?_;refine ae (aa (pE Z (pu (bm Z Z Z I Z) Z ?_)));refine aZ 5 Z ?_;refine ab (qs (ae (aa (aZ 2 Z ?_))));refine pu (G9 Z (by kernel_rfl)) Z ?_;refine pE Z (nl Z Z (fun _=>?_) (fun _=>?_));·
   refine bH Z Z (pE Z (bH Z Z (pu (bm Z Z Z (oy _ (C4 _).1 (C4 _).2) Z) Z ?_)));refine bH Z Z (pE Z (bH Z Z (aZ 2 Z ?_)));refine pu (bm Z Z Z (kp ..) Z) Z ?_;refine aZ 4 Z ?_;refine ab (qs (W.ret (QF.br trivial Z ?_)));contradiction
  iterate 4 refine bC Z Z Z Z ?_
  refine pE Z (pu (bm Z Z Z (kp ..) Z) Z ?_);refine aZ 4 Z ?_;refine ab (qs (W.ret (QF.br trivial Z ?_)));first | contradiction | (rw[hp];rfl)
 | _=>
  rw[h] at I;have hp:gV s=(0,false):=by unfold gV;rw[h]
  refine bq.bZ (n:=23) (ts:=[2,3]) Tryz.func160 (by kernel_rfl) Z Tryz.ntmps160 Tryz.results160 Z Z fun C hC J=>?_;refine ba 2 Z ?_;refine ae (aa (pE Z (pu (bm Z Z Z I Z) Z ?_)));refine aZ 5 Z ?_;refine ab (qs (ae (aa (aZ 2 Z ?_))));refine pu (G9 Z (by kernel_rfl)) Z ?_;refine pE Z (nl Z Z (fun _=>?_) (fun _=>?_));·
   refine bH Z Z (pE Z (bH Z Z (pu (bm Z Z Z (oy 0 (by decide) (by decide)) Z) Z ?_)));refine bH Z Z (pE Z (bH Z Z (aZ 2 Z ?_)));refine pu (bm Z Z Z (kp ..) Z) Z ?_;refine aZ 4 Z ?_;refine ab (qs (W.ret (QF.br trivial Z ?_)));contradiction
  iterate 4 refine bC Z Z Z Z ?_
  refine pE Z (pu (bm Z Z Z (kp ..) Z) Z ?_);refine aZ 4 Z ?_;refine ab (qs (W.ret (QF.br trivial Z ?_)))
  (rw[hp];rfl)
theorem BJ (l:List Int) (s:Int):bq Tryz.prog 162 [.d (.sl (l.map ic)),.d (.v (.int .i64 s))] (.d (.v (.int .i64 (idx (l.findIdx? fun x=>decide (s=x)))))) 0:=by
 refine bq.bZ (n:=19) (ts:=[4]) Tryz.func162 (by kernel_rfl) Z Tryz.ntmps162 Tryz.results162 Z Z fun C hC U=>?_;refine ba 1 Z ?_;refine ae (ba 3 Z ?_);refine W.block (W.len (t:=0) Z Z (fun hlen=>?_));try simp only[List.length_map,Ex.bA] at hlen
 refine W.b7 (ι:={x:Nat // match x with | k=>k≤l.length∧cV (fun x=>decide (s=x)) l k})
  (fun x=>match x.1 with | k=>[(8,.d (.v (.int .i64 ((k:Nat):Int))))]) [(0,_),(1,_),(7,_)]
  (fun x=>match x.1 with | k=>[]) [] [] 0 (fun x=>match x.1 with | k=>l.length - k)
  [] ⟨0,?_⟩ Z ?_ ⟨rfl,rfl,rfl,rfl,rfl,rfl,trivial⟩ ?_ trivial Z ?_
 ·exact⟨Nat.zero_le _,cV.zero⟩
 ·repeat' constructor
 ·repeat' exact trivial
 rintro⟨k,O,J⟩;show W _ _ _ _ _ ⟨[(8,.d (.v (.int .i64 ((k:Nat):Int)))),(0,_),(1,_),(7,_)],[],[],0⟩;refine ba 1 Z ?_;refine ae (cB (l:=l) (k:=k) Z (by simp[Ex.bA,bk]) O (fun x M hd N=>?_) (fun he hd=>?_));·
  refine ah (qs (ae (W.block (ba 2 Z ?_))));refine ae (aa (aZ 3 Z ?_));refine pu (indexAddr aX Z Z Z Z Z Z (Int.natCast_nonneg _) (bN (by assumption)) Z) Z ?_;refine aZ 2 Z ?_;refine ab (qs (be Z (fun I=>?_) (fun I=>?_)));·
   refine ba 2 Z ?_;refine W.ret (bz (bo (dI (bz (bo (QF.br trivial Z ?_))))));simp only[norm,bW];rw[J.found M I];rfl
  refine ah (ca (qs (cQ 2 Z ?_)));refine W.cr [] ⟨k+1,?_⟩ ?_ Z ?_ ⟨rfl,rfl,rfl,rfl,rfl,rfl,trivial⟩ ?_ trivial Z;·exact⟨N,J.step M I⟩
  ·dsimp only;omega
  ·repeat' first | exact trivial | refine⟨bJ (by assumption) (by assumption),?_⟩
  repeat' exact trivial
 refine an (bT (bR (bP (qs (ba 1 Z ?_)))));refine W.ret (QF.br trivial Z ?_);simp only[norm,bW];rw[J.end_ he];rfl
theorem x9 (l:List Int) (s:Int):bq Tryz.prog 121 [.d (.sl (l.map ic)),.d (.v (.int .i64 s))] (.d (.v (.bool (l.any fun x=>decide (s=x))))) 0:=by refine bq.bZ (n:=9) (ts:=[4]) Tryz.func121 (by kernel_rfl) Z Tryz.ntmps121 Tryz.results121 Z Z fun C hC I=>?_;refine ba 1 Z ?_;refine ae (aa (aZ 2 Z ?_));refine pu (bm Z Z Z (BJ ..) Z) Z ?_;refine aZ 2 Z ?_;refine ab (qs (W.ret (QF.br trivial Z ?_)));simp only[norm,bW];rw[←gQ]
def tM (l:List Ev) (k:Nat):Option Int:=if k=0 then none else (l[k - 1]?).map Ev.time
theorem sub_one {k:Nat} (h:0 < k) (hm:(k:Int)≤9223372036854775807):IntKind.i64.wrap ((k:Int) - 1)=((k - 1:Nat):Int):=by rw[wrap64 (by omega)];omega
theorem sv (l:List Ev):bq Tryz.prog 156 [.d (.sl (l.map Ev.c))] (.d (.v (.int .i64 (iU l none)))) 0:=by
 refine bq.bZ (n:=32) (ts:=[2]) Tryz.func156 (by kernel_rfl) Z Tryz.ntmps156 Tryz.results156 Z Z fun C hC hG=>?_;refine ba 1 Z ?_;refine ae (ba 3 Z ?_);refine W.block (W.len (t:=0) Z Z (fun hlen=>?_));try simp only[List.length_map,Ex.bA] at hlen
 refine W.b7 (ι:={x:Nat // match x with | k=>k≤l.length∧iU (l.drop k) (tM l k)=iU l none})
  (fun x=>match x.1 with | k=>[(8,.d (.v (.int .i64 ((k:Nat):Int))))]) [(0,_),(6,_),(7,_)]
  (fun x=>match x.1 with | k=>[]) [] [] 0 (fun x=>match x.1 with | k=>l.length - k)
  [] ⟨0,?_⟩ Z ?_ ⟨rfl,rfl,rfl,rfl,rfl,rfl,trivial⟩ ?_ trivial Z ?_
 ·exact⟨Nat.zero_le _,rfl⟩
 ·repeat' constructor
 ·repeat' exact trivial
 rintro⟨k,hk,I⟩;show W _ _ _ _ _ ⟨[(8,.d (.v (.int .i64 ((k:Nat):Int)))),(0,_),(6,_),(7,_)],[],[],0⟩;refine ba 1 Z ?_;refine ae (cB (l:=l) (k:=k) Z (by simp[Ex.bA,bk]) hk (fun e hx hd ad=>?_) (fun he hd=>?_));·
  rw[hd] at I;simp only[iU] at I;obtain⟨p,hp⟩:∃ p:Ev,0 < k→l[k - 1]? = some p:=⟨l[k - 1]'(by omega),fun _=>by simp⟩;have O:A8 (tM l k) e.time=(decide (0 < k) && decide (e.time < p.time)):=by
   unfold tM A8;by_cases q:k=0;·simp[q]
   rw[if_neg q,hp (by omega)];simp;omega
  rw[O] at I;have U:tM l (k+1)=some e.time:=by unfold tM;rw[if_neg (by omega),Nat.add_sub_cancel,hx];rfl
  refine ah (qs (ae (W.block (ae (aa (pE Z (pu (indexAddr aX Z Z Z Z Z Z (Int.natCast_nonneg _) (bN hx) Z) Z ?_)))))));refine aZ 1 Z ?_;refine bK aX Z Z Z (pE Z (bl aX Z Z Z Z Z Z Z Z (ab (qs ?_))));iterate 2 refine ae ?_
  refine aa (aZ 1 Z ?_);refine pu (bm Z Z Z (wa e) Z) Z ?_;refine pE Z (ab (qs (ba 2 Z ?_)));refine be Z (fun J=>?_) (fun J=>?_);·
   have X:dN e≠0:=by simpa using J
   rw[if_pos X] at I;refine ba 2 Z ?_;refine W.ret (bo (bz (bo (dI (bz (bo (QF.br trivial Z ?_)))))));simp only[norm,bW,←I]
  have X:dN e=0:=by simpa using J
  rw[if_neg (by simp[X])] at I;refine ah (qs (ae ?_));apply mP aX;(case hb=>rfl);(case hB=>kernel_rfl);·
   iterate 3 refine bF (ev aX Z) Z ?_
   apply pd;(case hj=>rfl);(case hl=>rfl);·
    intro g20;refine dn Z Z (ev aX Z) Z ?_;refine dn Z Z (ev aX Z) Z ?_;refine dn Z Z (ev aX Z) Z ?_;refine dn Z Z (ev aX Z) Z ?_;refine dn Z Z (dP (ev aX Z) (y:=((k - 1:Nat):Int)) (sub_one (by simpa using g20) (by simp only[maxLen] at hlen;omega))) Z ?_;refine dn Z Z (indexAddr (l:=p.c) aX Z Z Z Z Z Z (Int.natCast_nonneg _) (bN (hp (by simpa using g20))) Z) Z ?_;refine dn Z Z (ev aX Z) Z ?_;refine dn Z Z (ev aX Z) Z ?_;refine dn Z Z (ev aX Z) Z ?_;refine bF (ev aX Z) Z ?_;refine aq ?_;refine cc Z Z Z
   intro g20;iterate 9 refine qP Z Z Z Z ?_
   refine bF (ev aX Z) Z ?_;refine aq ?_;refine cc Z Z Z
  refine qs (be Z (fun M=>?_) (fun M=>?_));·
   have N:(decide (0 < k) && decide (e.time < p.time))=true:=by simp at M ⊢;omega
   rw[if_pos N] at I;refine ba 1 Z ?_;refine W.ret (bz (bo (dI (bz (bo (QF.br trivial Z ?_))))));simp only[norm,bW,←I]
  have N:(decide (0 < k) && decide (e.time < p.time))=false:=by simp at M ⊢;omega
  rw[if_neg (by rw[N];decide)] at I;refine ah (ca (qs (cQ 2 Z ?_)));refine W.cr [] ⟨k+1,?_⟩ ?_ Z ?_ ⟨rfl,rfl,rfl,rfl,rfl,rfl,trivial⟩ ?_ trivial Z;·exact⟨ad,by rw[U];exact I⟩
  ·dsimp only;omega
  ·repeat' first | exact trivial | refine⟨bJ (by assumption) (by assumption),?_⟩
  repeat' exact trivial
 rw[hd] at I;simp only[iU] at I;refine an (bT (bR (bP (qs (ba 1 Z ?_)))));refine W.ret (QF.br trivial Z ?_);simp only[norm,bW,←I]
theorem wb (fid:Nat) (caps:List A) (I:Still caps) (p:Int×Int→Bool) (hp:∀ x:Int×Int,bq Tryz.prog fid (.ag (dC x)::caps) (.d (.v (.bool (p x)))) 0) (l:List (Int×Int)) :
 bq Tryz.prog 155 [.d (.sl (l.map dC)),.clo fid caps] (.d (.v (.int .i64 (idx (l.findIdx? p))))) 0:=by
 refine bq.bZ (n:=19) (ts:=[4]) Tryz.func155 (by kernel_rfl) Z Tryz.ntmps155 Tryz.results155 Z Z fun C hC X=>?_;refine ba 1 Z ?_;refine ae (ba 3 Z ?_);refine W.block (W.len (t:=0) Z Z (fun hlen=>?_));try simp only[List.length_map,Ex.bA] at hlen
 refine W.b7 (ι:={x:Nat // match x with | k=>k≤l.length∧cV p l k})
  (fun x=>match x.1 with | k=>[(8,.d (.v (.int .i64 ((k:Nat):Int))))]) [(0,_),(1,_),(7,_)]
  (fun x=>match x.1 with | k=>[]) [] [] 0 (fun x=>match x.1 with | k=>l.length - k)
  [] ⟨0,?_⟩ Z ?_ ⟨rfl,(by first | rfl | exact I.2),rfl,(by first | rfl | exact I.2),rfl,(by first | rfl | exact I.2),trivial⟩ ?_ trivial Z ?_
 ·exact⟨Nat.zero_le _,cV.zero⟩
 ·repeat' constructor
 ·repeat' exact trivial
 rintro⟨k,U,M⟩;show W _ _ _ _ _ ⟨[(8,.d (.v (.int .i64 ((k:Nat):Int)))),(0,_),(1,_),(7,_)],[],[],0⟩;refine ba 1 Z ?_;refine ae (cB (l:=l) (k:=k) Z (by simp[Ex.bA,bk]) U (fun x N hd O=>?_) (fun he hd=>?_));·
  refine ah (qs (ae (W.block (ba 2 Z ?_))));refine ae (aa (aZ 3 Z ?_));refine pu (indexAddr aX Z Z Z Z Z Z (Int.natCast_nonneg _) (bN N) Z) Z ?_;refine aZ 1 Z ?_;refine pu (bm Z Z (by rw[List.map_append,I.1 _ 3];rfl) (hp x) Z) Z ?_;refine ab (qs (be Z (fun J=>?_) (fun J=>?_)));·
   refine ba 2 Z ?_;refine W.ret (bz (bo (dI (bz (bo (QF.br trivial Z ?_))))));simp only[norm,bW];rw[M.found N J];rfl
  refine ah (ca (qs (cQ 2 Z ?_)));refine W.cr [] ⟨k+1,?_⟩ ?_ Z ?_ ⟨rfl,(by first | rfl | exact I.2),rfl,(by first | rfl | exact I.2),rfl,(by first | rfl | exact I.2),trivial⟩ ?_ trivial Z;·exact⟨O,M.step N J⟩
  ·dsimp only;omega
  ·repeat' first | exact trivial | refine⟨bJ (by assumption) (by assumption),?_⟩
  repeat' exact trivial
 refine an (bT (bR (bP (qs (ba 1 Z ?_)))));refine W.ret (QF.br trivial Z ?_);simp only[norm,bW];rw[M.end_ he];rfl
theorem tN (fid:Nat) (caps:List A) (I:Still caps) (p:Int×Int→Bool) (hp:∀ x:Int×Int,bq Tryz.prog fid (.ag (dC x)::caps) (.d (.v (.bool (p x)))) 0) (l:List (Int×Int)) :
 bq Tryz.prog 109 [.d (.sl (l.map dC)),.clo fid caps] (.d (.v (.bool (l.any p)))) 0:=by
 refine bq.bZ (n:=9) (ts:=[4]) Tryz.func109 (by kernel_rfl) Z Tryz.ntmps109 Tryz.results109 Z Z fun C hC J=>?_;refine ba 1 Z ?_;refine ae (aa (aZ 2 Z ?_));refine pu (bm (args:=[.d (.sl (l.map dC)),.clo fid caps]) Z Z (by simp[conv,I.1 _ 2]) (wb fid caps I p hp l) Z) Z ?_;refine aZ 2 Z ?_;refine ab (qs (W.ret (QF.br trivial Z ?_)));simp only[norm,bW];rw[←gQ]
theorem EA (id:Int) (d:Int×Int):bq Tryz.prog 188 [.ag (dC d),.row [.d (.v (.int .i64 id))]] (.d (.v (.bool (decide (d.1=id))))) 0:=by refine bq.bZ (n:=8) (ts:=[3]) Tryz.func188 (by kernel_rfl) Z Tryz.ntmps188 Tryz.results188 Z Z fun C hC I=>?_;refine ae (aa (cG Z Z Z (pE Z (ab (qs (ba 5 Z ?_))))));refine W.ret (QF.br trivial Z ?_);rfl
theorem nP (l:List (Int×Int)) (id:Int):bq Tryz.prog 174 [.d (.sl (l.map dC)),.d (.v (.int .i64 id))] (.d (.v (.int .i64 (idx (l.findIdx? fun d=>decide (d.1=id)))))) 0:=by refine bq.bZ (n:=8) (ts:=[4]) Tryz.func174 (by kernel_rfl) Z Tryz.ntmps174 Tryz.results174 Z Z fun C hC I=>?_;refine ae (aa (cG Z Z Z (pE Z (ab (qs (ae (aa (aZ 2 Z ?_))))))));refine pu (bm Z Z Z (wb _ _ ⟨fun _ _=>rfl,rfl⟩ _ (EA id) l) Z) Z ?_;refine pE Z (ab (qs (W.ret (QF.br trivial Z ?_))));rfl
theorem DK (t:dc) (d:Int×Int):bq Tryz.prog 110 [.ag (dC d),.row (t.c.map A.d)] (.d (.v (.bool (decide (d.1=0))))) 0:=by refine bq.bZ (n:=9) (ts:=[3]) Tryz.func110 (by kernel_rfl) Z Tryz.ntmps110 Tryz.results110 Z Z fun C hC I=>?_;refine ae (aa (cG Z Z Z (pE Z (ab (qs (ba 6 Z ?_))))));refine W.ret (QF.br trivial Z ?_);rfl
theorem F0 {k:Nat} {d:Int×Int} (h:ep[k]? = some d):k=0∧d=(0,0):=by
 match k with
 | 0=>simp[ep] at h;exact⟨rfl,h.symm⟩
 | k+1=>simp[ep] at h
theorem AR:bq Tryz.prog 153 [.d (.sl (ep.map dC))] (.d (.v (.int .i64 0))) 0:=by
 refine bq.bZ (n:=38) (ts:=[2]) Tryz.func153 (by kernel_rfl) Z Tryz.ntmps153 Tryz.results153 Z Z fun C hC hG=>?_;refine ba 1 Z ?_;refine ae (ba 3 Z ?_);refine W.block ?_
 refine W.b7 (ι:={x:Nat // match x with | k=>k≤ep.length})
  (fun x=>match x.1 with | k=>[(7,.d (.v (.int .i64 ((k:Nat):Int))))]) [(0,_),(5,_),(6,_)]
  (fun x=>match x.1 with | k=>[]) [] [] 0 (fun x=>match x.1 with | k=>ep.length - k)
  [] ⟨0,?_⟩ Z ?_ ⟨rfl,rfl,rfl,rfl,rfl,rfl,trivial⟩ ?_ trivial Z ?_
 ·exact Nat.zero_le _
 ·repeat' constructor
 ·repeat' exact trivial
 rintro⟨k,O⟩;show W _ _ _ _ _ ⟨[(7,.d (.v (.int .i64 ((k:Nat):Int)))),(0,_),(5,_),(6,_)],[],[],0⟩;refine ba 1 Z ?_;refine ae (cB (l:=ep) (k:=k) Z (by simp[Ex.bA,bk]) O (fun d U hd X=>?_) (fun he hd=>?_));·
  obtain⟨M,N⟩:=F0 U;subst M;subst N;refine ah (qs (ae (W.block (ae (aa (pE Z (pu (indexAddr (l:=dC (0,0)) aX Z Z Z Z Z Z (by decide) Z Z) Z ?_)))))));refine aZ 1 Z ?_;refine bK aX Z Z Z (pE Z (bl aX Z Z Z Z Z Z Z Z (ab (qs ?_))));iterate 2 refine ae ?_
  apply bL;(case hb=>rfl);·repeat' first | refine cc Z Z Z | refine bH Z Z ?_ | refine pE Z ?_ | refine ab ?_
  refine qs (be Z (fun I=>?_) (fun I=>?_));·exfalso;simp at I
  refine ah (qs (ae (W.fC aX (by kernel_rfl) ?_)));iterate 2 refine bF (ev aX Z) Z ?_
  refine bF (oq (fn:=dC) (l:=ep) (i:=0) (j:=0) (r:=[]) aX Z Z Z Z Z (fun _=>rfl) Z Z (by decide) (by decide) (by decide) Z) Z ?_;refine bF (ev aX Z) Z ?_;refine bF (ev aX Z) Z ?_;refine bF (bm Z Z Z (nP [] 0) Z) Z ?_;refine bF (ev aX Z) Z ?_;refine aq ?_;refine qs (be Z (fun J=>?_) (fun J=>?_));·exfalso;simp[idx] at J
  refine ah (ca (qs (cQ 2 Z ?_)));refine W.cr [] ⟨1,?_⟩ ?_ Z ?_ ⟨rfl,rfl,rfl,rfl,rfl,rfl,trivial⟩ ?_ trivial Z;·decide
  ·dsimp only;omega
  ·repeat' constructor
  repeat' exact trivial
 refine an (bT (bR (bP (qs (ba 1 Z ?_)))));refine W.ret (QF.br trivial Z ?_);rfl
theorem Eh:bq Tryz.prog 108 [.d (.sl (ep.map dC)),.d (.sl [])] (.d (.v (.int .i64 0))) 0:=by
 refine bq.bZ (n:=43) (ts:=[4]) Tryz.func108 (by kernel_rfl) Z Tryz.ntmps108 Tryz.results108 Z Z fun C hC hG=>?_;refine ba 1 Z ?_;refine ae (ba 3 Z ?_);refine be Z (fun I=>?_) (fun I=>?_);·exfalso;simp[ep] at I
 refine ah (qs ?_);iterate 2 refine ae ?_
 apply bL;(case hb=>rfl);·repeat' first | refine cc Z Z Z | refine bH Z Z ?_ | refine pE Z ?_ | refine ab ?_
 refine qs (be Z (fun J=>?_) (fun J=>?_));·exfalso;simp[ep] at J
 refine ah (qs ?_);iterate 2 refine ae ?_
 refine aa (pE Z (pu (indexAddr (l:=dC (0,0)) aX Z Z Z Z Z Z (by decide) Z Z) Z ?_));refine aZ 1 Z ?_;refine pu (build aX Z Z Z Z) Z ?_;refine pE Z (ab (qs (be Z (fun M=>?_) (fun M=>?_))));·exfalso;simp at M <;> omega
 refine ah (qs ?_);iterate 2 refine ae ?_
 refine aa (pE Z (pu (bm Z Z Z AR Z) Z ?_));refine pE Z (ab (qs (ba 2 Z ?_)));refine be Z (fun N=>?_) (fun N=>?_);·exfalso;simp at N
 refine ah (qs (ae (ba 3 Z ?_)));refine W.block ?_
 refine W.b7 (ι:={x:Nat // match x with | k=>k≤([]:List (List D)).length})
  (fun x=>match x.1 with | k=>[(32,.d (.v (.int .i64 ((k:Nat):Int))))]) [(0,_),(30,_),(31,_)]
  (fun x=>match x.1 with | k=>[]) [] [] 0 (fun x=>match x.1 with | k=>([]:List (List D)).length - k)
  [] ⟨0,?_⟩ Z ?_ ⟨rfl,rfl,rfl,rfl,rfl,rfl,trivial⟩ ?_ trivial Z ?_
 ·exact Nat.zero_le _
 ·repeat' constructor
 ·repeat' exact trivial
 rintro⟨k,O⟩;show W _ _ _ _ _ ⟨[(32,.d (.v (.int .i64 ((k:Nat):Int)))),(0,_),(30,_),(31,_)],[],[],0⟩;refine ba 1 Z ?_;refine ae (cB (l:=([]:List (List D))) (k:=k) Z (by simp[Ex.bA,bk]) O (fun d U hd X=>?_) (fun he hd=>?_));·exfalso;simp at U
 refine an (bT (bR (bP (qs (ba 1 Z ?_)))));refine W.ret (QF.br trivial Z ?_);rfl
theorem Gc (t:dc):bq Tryz.prog 109 [.d (.sl (ep.map dC)),.clo 110 [.row (t.c.map A.d)]] (.d (.v (.bool true))) 0:=
 tN _ _ ⟨fun _ _=>rfl,rfl⟩ _ (DK t) ep
theorem CG (p:bw) (h1:0≤p.thread∧p.thread≤1000000000000000) (h2:p.serial=0) (h3:p.lost=0) (h4:0 < p.evs.length∧p.evs.length≤1000):bq Tryz.prog 111 [.ag p.c] (.d (.v (.int .i64 (iU p.evs none)))) 0:=by
 obtain⟨th,se,lo,evs⟩:=p
 simp only at h1 h2 h3 h4
 subst h2;subst h3
 have hlen:[th,0,0].length≤maxLen:=by simp[maxLen]
 refine bq.bZ (n:=50) (ts:=[2]) Tryz.func111 (by kernel_rfl) rfl Tryz.ntmps111 Tryz.results111 rfl rfl fun C hC hG=>?_
 refine ae (aa (cG rfl rfl rfl (pE rfl (ab (qs ?_)))))
 iterate 2 refine ae ?_
 refine aa (aZ 6 rfl ?_)
 refine pu (b9 aX rfl rfl rfl rfl rfl rfl rfl rfl rfl) rfl ?_
 refine aZ 2 rfl ?_
 refine ab (qs (W.block ?_))
 refine W.b7 (ι:={x:Nat // match x with | k=>k≤[th,0,0].length})
  (fun x=>match x.1 with | k=>[(1,.ptr 0 0),(13,.d (.v (.int .i64 ((k:Nat):Int))))]) [(11,_),(12,_)]
  (fun x=>match x.1 with | k=>[(0,(bw.c ⟨th,0,0,evs⟩).map A.d)]) [] [] 1 (fun x=>match x.1 with | k=>[th,0,0].length - k)
  [0] ⟨0,?_⟩ rfl ?_ ⟨rfl,rfl,rfl,rfl,trivial⟩ ?_ trivial rfl ?_
 · exact Nat.zero_le _
 · repeat' first | exact trivial | refine⟨rfl,?_⟩
 · repeat' first | exact trivial | refine⟨rfl,?_⟩
 rintro⟨k,hk⟩
 show W _ _ _ _ _ ⟨[(1,.ptr 0 0),(13,.d (.v (.int .i64 ((k:Nat):Int)))),(11,_),(12,_)],[(0,(bw.c ⟨th,0,0,evs⟩).map A.d)],[],1⟩
 refine ba 1 rfl ?_
 refine ae (cB (l:=[th,0,0]) (k:=k) rfl (by simp[Ex.bA,bk]) hk (fun y hx hd hlt=>?_) (fun he hd=>?_))
 ·
  have hy:0≤y∧y≤1000000000000000:=by have:=List.mem_of_getElem? hx;simp at this;rcases this with rfl | rfl <;> omega
  refine ah (qs (ae (W.block (ae (aa (pu (indexAddr aX rfl rfl rfl rfl rfl rfl (Int.natCast_nonneg _) (bN (f:=ic) hx) rfl) rfl ?_))))))
  refine aZ 2 rfl ?_
  refine ab (qs (ae ?_))
  apply bL;(case hb=>rfl)
  · repeat' first | refine cc rfl rfl rfl | refine bH rfl rfl ?_ | refine bC rfl rfl rfl rfl ?_ | refine pE rfl ?_ | refine ab ?_ | (apply b8;(case hj=>rfl);(case hl=>rfl))
  refine qs (be rfl (fun h22=>?_) (fun h22=>?_))
  ·
   exfalso;simp at h22;omega
  refine ah (ca (qs (cQ 2 rfl ?_)))
  refine W.cr [0] ⟨k+1,?_⟩ ?_ rfl ?_ ⟨rfl,rfl,rfl,rfl,trivial⟩ ?_ trivial rfl
  · exact hlt
  · dsimp only;omega
  · repeat' first | exact trivial | refine⟨rfl,?_⟩ | refine⟨bJ (by assumption) (by assumption),?_⟩
  repeat' first | exact trivial | refine⟨rfl,?_⟩
 refine an (bT (bR (bP (qs (ae (W.block (ae (ba 6 rfl ?_))))))))
 refine be rfl (fun h24=>?_) (fun h24=>?_)
 ·
  exfalso;simp at h24 <;> omega
 refine aa (aZ 5 rfl ?_)
 refine pu (dP (ev aX rfl) (y:=(evs.length:Int)) (by show IntKind.i64.wrap ((0:Int)+((evs.map Ev.c).length:Nat))=_;rw[List.length_map,wrap64 (by omega)];omega)) rfl ?_
 refine aZ 2 rfl ?_
 refine ab (qs (be rfl (fun h24=>?_) (fun h24=>?_)))
 ·
  exfalso;simp at h24 <;> omega
 refine ba 5 rfl ?_
 refine be rfl (fun h37=>?_) (fun h37=>?_)
 ·
  exfalso;simp at h37;simp[h37] at h4
 refine ba 5 rfl ?_
 refine be rfl (fun h42=>?_) (fun h42=>?_)
 ·
  exfalso;simp at h42;omega
 refine ah (ca (qs (ae (aa (aZ 2 rfl ?_)))))
 refine pu (bm rfl rfl rfl (sv ..) rfl) rfl ?_
 refine pE rfl (ab (qs (W.ret (QF.br trivial rfl ?_))))
 rfl
theorem FW {p:bw} {e:Ev} {r:List Ev} (hp:p.evs=e::r) (h:iU p.evs none=0):0≤e.time:=by
 rw[hp] at h;simp only[iU] at h;by_cases hc:dN e=0;·
  unfold dN at hc;split at hc;·cases hc
  omega
 rw[if_pos hc] at h;exact absurd h hc
theorem AY (th:Int) (e:Ev) (r:List Ev) (h0:0≤e.time):cm Tryz.prog 112 [.ptr 0 0,.ag (bw.c ⟨th,0,0,e::r⟩)] [z2.map A.d] 0 (.d (.v (.bool true))) [z2.map A.d] 0:=by
 refine cm.dQ aX (n:=27) (rs:=[.tmp 4]) Tryz.func112 (by kernel_rfl) Z Tryz.ntmps112 Tryz.results112 Z Z fun C hC I=>?_;refine ae (aa (cG Z Z Z (pE Z (ab (qs (ae ?_))))));apply mP aX;(case hb=>rfl);(case hB=>kernel_rfl);·
  refine bF (ev aX Z) Z ?_;refine bF (ev aX Z) Z ?_;refine bF (ev aX Z) Z ?_;refine bF (ev aX Z) Z ?_;iterate 4 refine bF (ev aX Z) Z ?_
  refine bF (ev aX Z) Z ?_;iterate 2 refine bF (ev aX Z) Z ?_
  apply xA;(case hj=>rfl);(case hl=>rfl);·
   refine dn Z Z (ev aX Z) Z ?_;refine dn Z Z (ev aX Z) Z ?_;refine dn Z Z (indexAddr (l:=e.c) aX Z Z Z Z Z Z (by decide) Z Z) Z ?_;refine dn Z Z (ev aX Z) Z ?_;refine dn Z Z (ev aX Z) Z ?_;refine dn Z Z (ev aX Z) Z ?_;refine dn Z Z (ev aX Z) Z ?_;refine dn Z Z (ev aX Z) Z ?_;refine dn Z Z (ev aX Z) Z ?_;refine dn Z Z (ev aX Z) Z ?_;iterate 2 refine bF (ev aX Z) Z ?_
   refine aq ?_;refine cc Z Z Z
  iterate 10 refine qP Z Z Z Z ?_
  iterate 2 refine bF (ev aX Z) Z ?_
  refine aq ?_;refine cc Z Z Z
 refine qs (W.ret (ak aX [] trivial Z Z Z Z ?_ ?_));·exact⟨rfl,trivial⟩
 simp only[norm,bW];simp[h0];rfl
theorem AQ (th:Int) (e:Ev) (r:List Ev) (z:Ev) (I:(e::r)[r.length]? = some z) (hl:r.length≤1000):cm Tryz.prog 113 [.ptr 0 0,.ag (bw.c ⟨th,0,0,e::r⟩)] [z2.map A.d] 0 (.tup []) [[.d (ci ((r.length:Int)+1)),.d (ci z.time)]] 0:=by
 refine cm.dQ aX (n:=25) (rs:=[]) Tryz.func113 (by kernel_rfl) Z Tryz.ntmps113 Tryz.results113 Z Z fun C hC J=>?_;refine ae (aa (cG Z Z Z (ab (qs (ae (aa (aZ 6 Z ?_)))))));refine pu (dP (ev aX Z) (y:=(r.length:Int)+1) (by show IntKind.i64.wrap ((0:Int)+(((e::r).map Ev.c).length:Nat))=_;rw[List.length_map,List.length_cons,wrap64 (by omega)];omega)) Z ?_;refine aZ 2 Z ?_;refine bl aX Z Z Z Z Z Z Z Z (ab (qs (aa (aZ 6 Z ?_))));refine pu (dP (ev aX Z) (y:=(r.length:Int)) (by show IntKind.i64.wrap ((((e::r).map Ev.c).length:Nat) - (1:Int))=_;rw[List.length_map,List.length_cons,wrap64 (by omega)];omega)) Z ?_;refine pu (indexAddr (l:=z.c) aX Z Z Z Z Z Z (Int.natCast_nonneg _) (bN I) Z) Z ?_;refine aZ 4 Z ?_;refine bl aX Z Z Z Z Z Z Z Z (ab (ak aX [] trivial Z Z Z Z ?_ ?_));·exact⟨rfl,trivial⟩
 rfl
theorem xF (l:List bw) (k:Nat):((l.take k).map fun p=>p.evs.length).sum≤(l.map fun p=>p.evs.length).sum:=by have h:=congrArg (fun x=>(x.map fun p:bw=>p.evs.length).sum) (List.take_append_drop k l);simp only[List.map_append,List.sum_append] at h;omega
theorem Az (t:dc):bq Tryz.prog 107 [.ag t.c] (.d (.v (.int .i64 (oQ t)))) 0:=by
 refine bq.bZ (n:=24) (ts:=[2]) Tryz.func107 (by kernel_rfl) Z Tryz.ntmps107 Tryz.results107 Z Z fun C hC M=>?_;refine ae (aa (cG Z Z Z (pE Z (ab (qs ?_)))));iterate 2 refine ae ?_
 apply bL;(case hb=>rfl);·repeat' first | refine cc Z Z Z | refine bH Z Z ?_ | refine bC Z Z Z Z ?_ | refine pE Z ?_ | refine ab ?_ | (apply b8;(case hj=>rfl);(case hl=>rfl))
 refine qs (be Z (fun I=>?_) (fun I=>?_));·
  have J:oQ t=2:=by unfold oQ;rw[if_pos (by simp at I;omega)]
  refine ba 1 Z ?_;refine W.ret (bo (QF.br trivial Z ?_));simp only[norm,bW,J]
 have J:oQ t=cY t.name:=by unfold oQ;rw[if_neg (by simp at I;omega)]
 refine ah (qs (ae (aa (aZ 2 Z ?_))));refine pu (bm Z Z Z (oN ..) Z) Z ?_;refine pE Z (ab (qs (W.ret (QF.br trivial Z ?_))));simp only[norm,bW,J]
theorem DQ (ts:List dc):bq Tryz.prog 67 [.ag (oE ts)] (.d (.v (.int .i64 (gJ ts)))) 0:=by
 refine bq.bZ (n:=62) (ts:=[2]) Tryz.func67 (by kernel_rfl) rfl Tryz.ntmps67 Tryz.results67 rfl rfl fun C hC hG=>?_
 refine ae (aa (cG rfl rfl rfl (pE rfl (ab (qs (ae (W.block (ba 5 rfl ?_))))))))
 refine be rfl (fun h10=>?_) (fun h10=>?_)
 ·
  have hg:gJ ts=8:=by simp at h10;unfold gJ;rw[if_pos h10]
  refine ba 1 rfl ?_
  refine W.ret (bz (bo (QF.br trivial rfl ?_)))
  simp only[norm,bW,hg]
 have hne:ts≠[]:=by simpa using h10
 refine ba 5 rfl ?_
 refine be rfl (fun h15=>?_) (fun h15=>?_)
 ·
  have hg:gJ ts=7:=by simp at h15;unfold gJ;rw[if_neg hne,if_pos (by omega)]
  refine ba 1 rfl ?_
  refine W.ret (bz (bo (QF.br trivial rfl ?_)))
  simp only[norm,bW,hg]
 have hT:gJ ts=pr ts []:=by simp at h15;unfold gJ;rw[if_neg hne,if_neg (by omega)]
 have hlen:ts.length≤maxLen:=by simp at h15;simp only[maxLen];omega
 refine ah (ca (qs (ae (aa (mkMap rfl ?_)))))
 refine pE rfl (ab (qs (ae (ba 4 rfl ?_))))
 refine W.block ?_
 refine W.b7 (ι:={x:Nat // match x with | k=>k≤ts.length∧((ts.take k).map dc.id).Nodup∧pr (ts.drop k) ((ts.take k).map dc.id)=gJ ts})
  (fun x=>match x.1 with | k=>[(1,.ptr 0 0),(3,.mp 1 (dO ik rZ (hZ (ts.take k) dc.id))),(24,.d (.v (.int .i64 ((k:Nat):Int))))]) [(22,_),(23,_)]
  (fun x=>match x.1 with | k=>[(0,(oE ts).map A.d)]) [] [1] 2 (fun x=>match x.1 with | k=>ts.length - k)
  [0,1] ⟨0,?_⟩ rfl ?_ ⟨rfl,rfl,rfl,rfl,trivial⟩ ?_ trivial rfl ?_
 · exact⟨Nat.zero_le _,List.nodup_nil,hT.symm⟩
 · repeat' first | exact trivial | refine⟨rfl,?_⟩
 · repeat' first | exact trivial | refine⟨rfl,?_⟩
 rintro⟨k,hk,hnd,hI⟩
 show W _ _ _ _ _ ⟨[(1,.ptr 0 0),(3,.mp 1 (dO ik rZ (hZ (ts.take k) dc.id))),(24,.d (.v (.int .i64 ((k:Nat):Int)))),(22,_),(23,_)],[(0,(oE ts).map A.d)],[1],2⟩
 refine ba 1 rfl ?_
 refine ae (cB (l:=ts) (k:=k) rfl (by simp[Ex.bA,bk]) hk (fun t hx hd hlt=>?_) (fun he hd=>?_))
 ·
  rw[hd,pr] at hI
  have hst:=qI (f:=dc.id) (ts.take k) t.id
  refine ah (qs (ae (W.block (ae (aa (pu (indexAddr aX rfl rfl rfl rfl rfl rfl (Int.natCast_nonneg _) (bN hx) rfl) rfl ?_))))))
  refine aZ 1 rfl ?_
  refine bK aX rfl rfl rfl (bl aX rfl rfl rfl rfl rfl rfl rfl rfl (ab (qs ?_)))
  iterate 2 refine ae ?_
  refine aa (aZ 1 rfl ?_)
  refine pu (bm rfl rfl rfl (Az t) rfl) rfl ?_
  refine pE rfl (ab (qs (ba 2 rfl ?_)))
  refine be rfl (fun h31=>?_) (fun h31=>?_)
  ·
   have hg:gJ ts=oQ t:=by rw[←hI,if_pos (by simpa using h31)]
   refine ba 2 rfl ?_
   refine W.ret (bo (bz (bo (dI (bz (bo (QF.br trivial rfl ?_)))))))
   simp only[norm,bW,hg]
  rw[if_neg (by simpa using h31)] at hI
  refine ah (qs ?_)
  iterate 2 refine ae ?_
  refine aa (aZ 3 rfl ?_)
  refine pu (jS (kf:=ik) (vf:=rZ) (l:=hZ (ts.take k) dc.id) (a:=t.id) (z:=false) (r:=rZ (((ts.take k).map dc.id).any fun x=>decide (x=t.id))) aX rfl rfl rfl rfl rfl (eY (aX.eS rfl rfl)) rfl rfl rfl (fun _ _=>.v _ rfl) (by rw[ku];exact hnd) (by rw[hst])) rfl ?_
  refine ab (qs (be rfl (fun h36=>?_) (fun h36=>?_)))
  ·
   have hg:gJ ts=4:=by rw[←hI,if_pos h36]
   refine ba 1 rfl ?_
   refine W.ret (bo (bz (bo (dI (bz (bo (QF.br trivial rfl ?_)))))))
   simp only[norm,bW,hg]
  have hns:¬ (((ts.take k).map dc.id).any fun x=>decide (x=t.id))=true:=by rw[show(((ts.take k).map dc.id).any fun x=>decide (x=t.id))=false from h36];simp
  rw[if_neg hns] at hI
  have hti:(ts.take (k+1)).map dc.id=(ts.take k).map dc.id++[t.id]:=by rw[List.take_add_one,hx,List.map_append];rfl
  have hnm:t.id∉(ts.take k).map dc.id:=by intro q;exact hns (List.any_eq_true.2 ⟨_,q,by simp⟩)
  refine ah (qs (aa (aZ 3 rfl ?_)))
  first | refine mW (kf:=ik) (vf:=rZ) (l:=hZ (ts.take k) dc.id) (a:=t.id) (y:=true) aX 3 rfl rfl rfl rfl rfl rfl rfl (eY (aX.eS rfl rfl)) rfl rfl (by rw[ku];exact hnd) (by rw[xG hns hx]) rfl ?_
  refine ab (ca (qs (cQ 2 rfl ?_)))
  refine W.cr [0,3] ⟨k+1,?_⟩ ?_ rfl ?_ ⟨rfl,rfl,rfl,rfl,trivial⟩ ?_ trivial rfl
  · exact⟨hlt,by rw[hti,List.nodup_append];exact⟨hnd,by simp,fun a ha b hb=>by simp at hb;subst hb;rintro rfl;exact hnm ha⟩,by rw[hti];exact hI⟩
  · dsimp only;omega
  · repeat' first | exact trivial | refine⟨rfl,?_⟩ | refine⟨bJ (by assumption) (by assumption),?_⟩
  repeat' first | exact trivial | refine⟨rfl,?_⟩
 have hg:gJ ts=0:=by rw[←hI,hd];rfl
 refine an (bT (bR (bP (qs ?_))))
 iterate 2 refine ae ?_
 refine aa (aZ 4 rfl ?_)
 refine pu (bm rfl rfl rfl Eh rfl) rfl ?_
 refine pE rfl (ab (qs (ba 2 rfl ?_)))
 refine be rfl (fun h47=>?_) (fun h47=>?_)
 ·
  exfalso;simp at h47
 refine ah (qs (ae (ba 4 rfl ?_)))
 refine W.block ?_
 refine W.b7 (ι:={x:Nat // match x with | k=>k≤ts.length})
  (fun x=>match x.1 with | k=>[(1,.ptr 0 0),(52,.d (.v (.int .i64 ((k:Nat):Int))))]) [(50,_),(51,_)]
  (fun x=>match x.1 with | k=>[(0,(oE ts).map A.d)]) [] [] 1 (fun x=>match x.1 with | k=>ts.length - k)
  [0] ⟨0,?_⟩ rfl ?_ ⟨rfl,rfl,rfl,rfl,trivial⟩ ?_ trivial rfl ?_
 · exact Nat.zero_le _
 · repeat' first | exact trivial | refine⟨rfl,?_⟩
 · repeat' first | exact trivial | refine⟨rfl,?_⟩
 rintro⟨k,hk⟩
 show W _ _ _ _ _ ⟨[(1,.ptr 0 0),(52,.d (.v (.int .i64 ((k:Nat):Int)))),(50,_),(51,_)],[(0,(oE ts).map A.d)],[],1⟩
 refine ba 1 rfl ?_
 refine ae (cB (l:=ts) (k:=k) rfl (by simp[Ex.bA,bk]) hk (fun t hx hd hlt=>?_) (fun he hd=>?_))
 ·
  refine ah (qs (ae (W.block (ae (aa (pu (indexAddr aX rfl rfl rfl rfl rfl rfl (Int.natCast_nonneg _) (bN hx) rfl) rfl ?_))))))
  refine aZ 1 rfl ?_
  refine bK aX rfl rfl rfl (bl aX rfl rfl rfl rfl rfl rfl rfl rfl (ab (qs (ae (aa (aZ 3 rfl ?_))))))
  refine pu (bm rfl rfl rfl (Gc t) rfl) rfl ?_
  refine pE rfl (ab (qs (be rfl (fun h60=>?_) (fun h60=>?_))))
  ·
   exfalso;simp at h60
  refine ah (ca (qs (cQ 2 rfl ?_)))
  refine W.cr [0] ⟨k+1,?_⟩ ?_ rfl ?_ ⟨rfl,rfl,rfl,rfl,trivial⟩ ?_ trivial rfl
  · exact hlt
  · dsimp only;omega
  · repeat' first | exact trivial | refine⟨rfl,?_⟩ | refine⟨bJ (by assumption) (by assumption),?_⟩
  repeat' first | exact trivial | refine⟨rfl,?_⟩
 refine an (bT (bR (bP (qs (ba 1 rfl ?_)))))
 refine W.ret (QF.br trivial rfl ?_)
 simp only[norm,bW,hg]
theorem zf (ds:List (Int×Int)):bq Tryz.prog 153 [.d (.sl (ds.map dC))] (.d (.v (.int .i64 (kA ds [])))) 0:=by
 refine bq.bZ (n:=38) (ts:=[2]) Tryz.func153 (by kernel_rfl) Z Tryz.ntmps153 Tryz.results153 Z Z fun C hC hG=>?_;refine ba 1 Z ?_;refine ae (ba 3 Z ?_);refine W.block (W.len (t:=5) Z Z (fun hlen=>?_));try simp only[List.length_map,Ex.bA] at hlen
 refine W.b7 (ι:={x:Nat // match x with | k=>k≤ds.length∧kA (ds.drop k) (ds.take k)=kA ds []})
  (fun x=>match x.1 with | k=>[(7,.d (.v (.int .i64 ((k:Nat):Int))))]) [(0,_),(5,_),(6,_)]
  (fun x=>match x.1 with | k=>[]) [] [] 0 (fun x=>match x.1 with | k=>ds.length - k)
  [] ⟨0,?_⟩ Z ?_ ⟨rfl,rfl,rfl,rfl,rfl,rfl,trivial⟩ ?_ trivial Z ?_
 ·exact⟨Nat.zero_le _,rfl⟩
 ·repeat' constructor
 ·repeat' exact trivial
 rintro⟨k,hk,I⟩;show W _ _ _ _ _ ⟨[(7,.d (.v (.int .i64 ((k:Nat):Int)))),(0,_),(5,_),(6,_)],[],[],0⟩;refine ba 1 Z ?_;refine ae (cB (l:=ds) (k:=k) Z (by simp[Ex.bA,bk]) hk (fun d O hd U=>?_) (fun he hd=>?_));·
  rw[hd,kA] at I;have X:ds.take (k+1)=ds.take k++[d]:=by rw[List.take_add_one,O];rfl
  refine ah (qs (ae (W.block (ae (aa (pE Z (pu (indexAddr (l:=dC d) aX Z Z Z Z Z Z (Int.natCast_nonneg _) (bN O) Z) Z ?_)))))));refine aZ 1 Z ?_;refine bK aX Z Z Z (pE Z (bl aX Z Z Z Z Z Z Z Z (ab (qs ?_))));iterate 2 refine ae ?_
  apply bL;(case hb=>rfl);·
   refine aZ 4 Z ?_;apply fI;(case hj=>rfl);(case hl=>rfl);·
    intro g15;iterate 3 refine bC Z Z Z Z ?_
    refine aZ 2 Z ?_;iterate 3 refine bC Z Z Z Z ?_
    refine aZ 2 Z ?_;iterate 3 refine bC Z Z Z Z ?_
    refine pE Z (ab (cc Z Z Z))
   intro g15;refine bH Z Z (pE Z (bH Z Z (aZ 1 Z ?_)));refine bH Z Z (aZ 3 Z ?_);apply fI;(case hj=>rfl);(case hl=>rfl);·
    intro g20;iterate 3 refine bC Z Z Z Z ?_
    refine aZ 2 Z ?_;iterate 3 refine bC Z Z Z Z ?_
    refine pE Z (ab (cc Z Z Z))
   intro g20;refine bH Z Z (pE Z (bH Z Z (aZ 1 Z ?_)));refine bH Z Z (aZ 3 Z ?_);apply fI;(case hj=>rfl);(case hl=>rfl);·
    intro ad;iterate 3 refine bC Z Z Z Z ?_
    refine pE Z (ab (cc Z Z Z))
   intro ad;refine bH Z Z (pE Z (bH Z Z (aZ 1 Z ?_)));refine bH Z Z (aZ 2 Z ?_);refine ab (cc Z Z Z)
  refine qs (be Z (fun J=>?_) (fun J=>?_));·
   have hb:xC d=true:=by unfold xC;simp at J ⊢;omega
   have M:kA ds []=2:=by rw[←I,if_pos hb]
   refine ba 1 Z ?_;refine W.ret (bo (bz (bo (dI (bz (bo (QF.br trivial Z ?_)))))));rw[M];rfl
  have hb:xC d=false:=by unfold xC;simp at J ⊢;omega
  rw[if_neg (by rw[hb];decide)] at I;refine ah (qs (ae (W.fC aX (by kernel_rfl) ?_)));iterate 2 refine bF (ev aX Z) Z ?_
  refine bF (oq (fn:=dC) (l:=ds) (i:=0) (j:=(k:Int)) (r:=ds.take k) aX Z Z Z Z Z (fun _=>rfl) Z Z (by decide) (by omega) (by omega) Z) Z ?_;refine bF (ev aX Z) Z ?_;refine bF (ev aX Z) Z ?_;refine bF (bm Z Z Z (nP (ds.take k) d.1) Z) Z ?_;refine bF (ev aX Z) Z ?_;refine aq ?_;refine qs (be Z (fun N=>?_) (fun N=>?_));·
   have M:kA ds []=4:=by rw[←I,if_pos];unfold kX;rw[←gQ];simpa using N
   refine ba 1 Z ?_;refine W.ret (bz (bo (dI (bz (bo (QF.br trivial Z ?_))))));rw[M];rfl
  rw[if_neg (by unfold kX;rw[←gQ];simpa using N),←X] at I;refine ah (ca (qs (cQ 2 Z ?_)));refine W.cr [] ⟨k+1,?_⟩ ?_ Z ?_ ⟨rfl,rfl,rfl,rfl,rfl,rfl,trivial⟩ ?_ trivial Z;·exact⟨U,I⟩
  ·dsimp only;omega
  ·repeat' first | exact trivial | refine⟨bJ (by assumption) (by assumption),?_⟩
  repeat' exact trivial
 have M:kA ds []=0:=by rw[←I,hd];rfl
 refine an (bT (bR (bP (qs (ba 1 Z ?_)))));refine W.ret (QF.br trivial Z ?_);rw[M];rfl
theorem oX (a:Int):bq Tryz.prog 175 [.d (ci a)] (.d (.v (.bool (CZ a)))) 0:=by
 refine bq.bZ (n:=9) (ts:=[2]) Tryz.func175 (by kernel_rfl) Z Tryz.ntmps175 Tryz.results175 Z Z fun C hC I=>?_;refine ba 1 Z ?_;refine ae ?_;apply bL;(case hb=>rfl);·repeat' first | refine cc Z Z Z | refine bH Z Z ?_ | refine bC Z Z Z Z ?_ | refine pE Z ?_ | refine ab ?_ | (apply b8;(case hj=>rfl);(case hl=>rfl))
 refine qs (W.ret (QF.br trivial Z ?_));simp only[norm,bW];unfold CZ;cases decide (0≤a) <;> rfl
theorem ji (ds:List (Int×Int)) (a:Int):decide (idx (ds.findIdx? fun d=>decide (d.1=a)) < 0) = !(kX ds a):=by
 unfold kX;rw[←gQ];by_cases h:idx (ds.findIdx? fun d=>decide (d.1=a)) < 0;·rw[decide_eq_true h,decide_eq_false (by omega)];rfl
 rw[decide_eq_false h,decide_eq_true (by omega)];rfl
theorem Ej (ds:List (Int×Int)) (x:Sn):bq Tryz.prog 154 [.d (.sl (ds.map dC)),.ag x.c] (.d (.v (.int .i64 (fX ds x)))) 0:=by
 refine bq.bZ (n:=44) (ts:=[4]) Tryz.func154 (by kernel_rfl) Z Tryz.ntmps154 Tryz.results154 Z Z fun C hC N=>?_;refine ae (aa (cG Z Z Z (pE Z (ab (qs (ae (W.block ?_)))))));iterate 2 refine ae ?_
 refine aa (aZ 3 Z ?_);refine pu (bm Z Z Z (nP ds x.a) Z) Z ?_;refine aZ 2 Z ?_;refine ab (qs (be Z (fun h5=>?_) (fun h5=>?_)));·
  have I:fX ds x=5:=by simp only[ji] at *;unfold fX;rw[if_pos (by simp_all)]
  refine ah (qs (W.js Z (ba 1 Z ?_)));refine W.ret (bz (bo (QF.br trivial Z ?_)))
  (rw[I];rfl)
 refine aa (aZ 3 Z ?_);refine pu (bm Z Z Z (nP ds x.b) Z) Z ?_;refine aZ 2 Z ?_;refine ab (qs (be Z (fun h5=>?_) (fun h5=>?_)));·
  have I:fX ds x=5:=by simp only[ji] at *;unfold fX;rw[if_pos (by simp_all)]
  refine ba 1 Z ?_;refine W.ret (bz (bo (QF.br trivial Z ?_)))
  (rw[I];rfl)
 refine ba 6 Z ?_;refine be Z (fun M=>?_) (fun M=>?_);·
  have I:fX ds x=1:=by simp only[ji] at *;unfold fX;rw[if_neg (by simp_all),if_pos (of_decide_eq_true M)]
  refine ba 1 Z ?_;refine W.ret (bz (bo (QF.br trivial Z ?_)))
  (rw[I];rfl)
 iterate 2 refine ae ?_
 refine aa (aZ 2 Z ?_);refine pu (bm Z Z Z (oX ..) Z) Z ?_;refine aZ 2 Z ?_;refine ab (qs (be Z (fun J=>?_) (fun J=>?_)));·
  have I:fX ds x=2:=by simp only[ji] at *;unfold fX;rw[if_neg (by simp_all),if_neg (of_decide_eq_false (by assumption)),if_pos (by simp_all)]
  refine ah (qs (W.js Z (ba 1 Z ?_)));refine W.ret (bz (bo (QF.br trivial Z ?_)))
  (rw[I];rfl)
 refine ae (aa (aZ 3 Z ?_));refine pu (bm Z Z Z (oX ..) Z) Z ?_;refine aZ 2 Z ?_;refine ab (qs (be Z (fun J=>?_) (fun J=>?_)));·
  have I:fX ds x=2:=by simp only[ji] at *;unfold fX;rw[if_neg (by simp_all),if_neg (of_decide_eq_false (by assumption)),if_pos (by simp_all)]
  refine ah (qs (W.js Z (ba 1 Z ?_)));refine W.ret (bz (bo (QF.br trivial Z ?_)))
  (rw[I];rfl)
 refine ae (aa (aZ 3 Z ?_));refine pu (bm Z Z Z (oX ..) Z) Z ?_;refine aZ 2 Z ?_;refine ab (qs (be Z (fun J=>?_) (fun J=>?_)));·
  have I:fX ds x=2:=by simp only[ji] at *;unfold fX;rw[if_neg (by simp_all),if_neg (of_decide_eq_false (by assumption)),if_pos (by simp_all)]
  refine ah (qs (W.js Z (ba 1 Z ?_)));refine W.ret (bz (bo (QF.br trivial Z ?_)))
  (rw[I];rfl)
 refine cQ 8 Z ?_;refine qs (be Z (fun J=>?_) (fun J=>?_));·
  have I:fX ds x=2:=by simp only[ji] at *;unfold fX;rw[if_neg (by simp_all),if_neg (of_decide_eq_false (by assumption)),if_pos (by simp_all)]
  refine ba 1 Z ?_;refine W.ret (bz (bo (QF.br trivial Z ?_)))
  (rw[I];rfl)
 refine ah (ca (qs (ba 1 Z ?_)));refine W.ret (QF.br trivial Z ?_)
 (have I:fX ds x=0:=by simp only[ji] at *;unfold fX;rw[if_neg (by simp_all),if_neg (of_decide_eq_false (by assumption)),if_neg (by simp_all)]);(rw[I];rfl)
theorem BO (ds:List (Int×Int)) (sn:List Sn):bq Tryz.prog 108 [.d (.sl (ds.map dC)),.d (.sl (sn.map Sn.c))] (.d (.v (.int .i64 (eI ds sn)))) 0:=by
 refine bq.bZ (n:=43) (ts:=[4]) Tryz.func108 (by kernel_rfl) Z Tryz.ntmps108 Tryz.results108 Z Z fun C hC hG=>?_;refine ba 1 Z ?_;refine ae (ba 3 Z ?_);refine be Z (fun J=>?_) (fun J=>?_);·
  have I:eI ds sn=8:=by simp at J;unfold eI;rw[if_pos J]
  refine ba 1 Z ?_;refine W.ret (bo (QF.br trivial Z ?_));rw[I];rfl
 obtain⟨d,r,M⟩:∃ d r,ds=d::r:=by
  cases ds with
  | nil=>simp at J
  | cons d r=>exact⟨d,r,rfl⟩
 have N:ds≠[]:=by rw[M];simp
 have a1:ds[0]? = some d:=by rw[M];rfl
 have hh:ds.head? = some d:=by rw[M];rfl
 refine ah (qs ?_);iterate 2 refine ae ?_
 apply bL;(case hb=>rfl);·
  refine aZ 4 Z ?_;apply fI;(case hj=>rfl);(case hl=>rfl);·
   intro g15;iterate 3 refine bC Z Z Z Z ?_
   refine pE Z (ab (cc Z Z Z))
  intro g15;refine bH Z Z (pE Z (bH Z Z (pE Z (bH Z Z (aZ 2 Z ?_)))));refine ab (cc Z Z Z)
 refine qs (be Z (fun U=>?_) (fun U=>?_));·
  have I:eI ds sn=7:=by unfold eI;rw[if_neg N,if_pos (by simp at U;omega)]
  refine ba 1 Z ?_;refine W.ret (bo (QF.br trivial Z ?_));rw[I];rfl
 have hl:¬ (8 < ds.length∨200 < sn.length):=by simp at U;omega
 refine ah (qs ?_);iterate 2 refine ae ?_
 refine aa (pE Z (pu (indexAddr (l:=dC d) aX Z Z Z Z Z Z (by decide) (by rw[M];rfl) Z) Z ?_));refine aZ 1 Z ?_;refine pu (build aX Z Z Z Z) Z ?_;refine pE Z (ab (qs (be Z (fun O=>?_) (fun O=>?_))));·
  have I:eI ds sn=10:=by unfold eI;rw[if_neg N,if_neg hl,if_pos (by rw[hh];intro q;simp only[Option.some.injEq] at q;subst q;simp at O)]
  refine ba 1 Z ?_;refine W.ret (bo (QF.br trivial Z ?_));rw[I];rfl
 have ai:¬ ds.head?≠some (0,0):=by rw[hh];obtain⟨d1,d2⟩:=d;simp at O ⊢;exact O
 refine ah (qs ?_);iterate 2 refine ae ?_
 refine aa (pE Z (pu (bm Z Z Z (zf ds) Z) Z ?_));refine pE Z (ab (qs (ba 2 Z ?_)));refine be Z (fun X=>?_) (fun X=>?_);·
  have I:eI ds sn=kA ds []:=by unfold eI;rw[if_neg N,if_neg hl,if_neg ai,if_pos (by simpa using X)]
  refine ba 2 Z ?_;refine W.ret (bo (QF.br trivial Z ?_));rw[I];rfl
 have hc:eI ds sn=oB ds sn:=by unfold eI;rw[if_neg N,if_neg hl,if_neg ai,if_neg (by simpa using X)]
 have hlen:sn.length≤maxLen:=by simp only[maxLen];omega
 refine ah (qs (ae (ba 3 Z ?_)));refine W.block ?_
 refine W.b7 (ι:={x:Nat // match x with | k=>k≤sn.length∧oB ds (sn.drop k)=oB ds sn})
  (fun x=>match x.1 with | k=>[(32,.d (.v (.int .i64 ((k:Nat):Int))))]) [(0,_),(30,_),(31,_)]
  (fun x=>match x.1 with | k=>[]) [] [] 0 (fun x=>match x.1 with | k=>sn.length - k)
  [] ⟨0,?_⟩ Z ?_ ⟨rfl,rfl,rfl,rfl,rfl,rfl,trivial⟩ ?_ trivial Z ?_
 ·exact⟨Nat.zero_le _,rfl⟩
 ·repeat' constructor
 ·repeat' exact trivial
 rintro⟨k,hk,hI⟩;show W _ _ _ _ _ ⟨[(32,.d (.v (.int .i64 ((k:Nat):Int)))),(0,_),(30,_),(31,_)],[],[],0⟩;refine ba 1 Z ?_;refine ae (cB (l:=sn) (k:=k) Z (by simp[Ex.bA,bk]) hk (fun x hx hd aj=>?_) (fun he hd=>?_));·
  rw[hd,oB] at hI;refine ah (qs (ae (W.block (ae (aa (pu (indexAddr (l:=x.c) aX Z Z Z Z Z Z (Int.natCast_nonneg _) (bN hx) Z) Z ?_))))));refine aZ 1 Z ?_;refine bK aX Z Z Z (bl aX Z Z Z Z Z Z Z Z (ab (qs (ae (aa (aZ 2 Z ?_))))));refine pu (bm Z Z Z (Ej ds x) Z) Z ?_;refine pE Z (ab (qs (ba 2 Z ?_)));refine be Z (fun ad=>?_) (fun ad=>?_);·
   have I:eI ds sn=fX ds x:=by rw[hc,←hI,if_pos (by simpa using ad)]
   refine ba 2 Z ?_;refine W.ret (bz (bo (dI (bz (bo (QF.br trivial Z ?_))))));rw[I];rfl
  rw[if_neg (by simpa using ad)] at hI;refine ah (ca (qs (cQ 2 Z ?_)));refine W.cr [] ⟨k+1,?_⟩ ?_ Z ?_ ⟨rfl,rfl,rfl,rfl,rfl,rfl,trivial⟩ ?_ trivial Z;·exact⟨aj,hI⟩
  ·dsimp only;omega
  ·repeat' first | exact trivial | refine⟨bJ (by assumption) (by assumption),?_⟩
  repeat' exact trivial
 have I:eI ds sn=0:=by rw[hc,←hI,hd];rfl
 refine an (bT (bR (bP (qs (ba 1 Z ?_)))));refine W.ret (QF.br trivial Z ?_);rw[I];rfl
theorem AA (t:GT):bq Tryz.prog 107 [.ag t.c] (.d (.v (.int .i64 (jW t)))) 0:=by
 refine bq.bZ (n:=24) (ts:=[2]) Tryz.func107 (by kernel_rfl) Z Tryz.ntmps107 Tryz.results107 Z Z fun C hC M=>?_;refine ae (aa (cG Z Z Z (pE Z (ab (qs ?_)))));iterate 2 refine ae ?_
 apply bL;(case hb=>rfl);·repeat' first | refine cc Z Z Z | refine bH Z Z ?_ | refine bC Z Z Z Z ?_ | refine pE Z ?_ | refine ab ?_ | (apply b8;(case hj=>rfl);(case hl=>rfl))
 refine qs (be Z (fun I=>?_) (fun I=>?_));·
  have J:jW t=2:=by unfold jW;rw[if_pos (by simp at I;omega)]
  refine ba 1 Z ?_;refine W.ret (bo (QF.br trivial Z ?_));simp only[norm,bW,J]
 have J:jW t=cY t.name:=by unfold jW;rw[if_neg (by simp at I;omega)]
 refine ah (qs (ae (aa (aZ 2 Z ?_))));refine pu (bm Z Z Z (oN ..) Z) Z ?_;refine pE Z (ab (qs (W.ret (QF.br trivial Z ?_))));simp only[norm,bW,J]
theorem CJ (t:GT) (d:Int×Int):bq Tryz.prog 110 [.ag (dC d),.row (t.c.map A.d)] (.d (.v (.bool (decide (d.1=t.dom))))) 0:=by refine bq.bZ (n:=9) (ts:=[3]) Tryz.func110 (by kernel_rfl) Z Tryz.ntmps110 Tryz.results110 Z Z fun C hC I=>?_;refine ae (aa (cG Z Z Z (pE Z (ab (qs (ba 6 Z ?_))))));refine W.ret (QF.br trivial Z ?_);rfl
theorem Ew (ds:List (Int×Int)) (t:GT):bq Tryz.prog 109 [.d (.sl (ds.map dC)),.clo 110 [.row (t.c.map A.d)]] (.d (.v (.bool (kX ds t.dom)))) 0:=
 tN _ _ ⟨fun _ _=>rfl,rfl⟩ _ (CJ t) ds
theorem DY (ts:List GT) (ds:List (Int×Int)) (sn:List Sn):bq Tryz.prog 67 [.ag (sd ts ds sn)] (.d (.v (.int .i64 (eB ts ds sn)))) 0:=by
 refine bq.bZ (n:=62) (ts:=[2]) Tryz.func67 (by kernel_rfl) rfl Tryz.ntmps67 Tryz.results67 rfl rfl fun C hC hG=>?_
 refine ae (aa (cG rfl rfl rfl (pE rfl (ab (qs (ae (W.block (ba 5 rfl ?_))))))))
 refine be rfl (fun h10=>?_) (fun h10=>?_)
 ·
  have hg:eB ts ds sn=8:=by simp at h10;unfold eB;rw[if_pos h10]
  refine ba 1 rfl ?_
  refine W.ret (bz (bo (QF.br trivial rfl ?_)))
  simp only[norm,bW,hg]
 have hne:ts≠[]:=by simpa using h10
 refine ba 5 rfl ?_
 refine be rfl (fun h15=>?_) (fun h15=>?_)
 ·
  have hg:eB ts ds sn=7:=by simp at h15;unfold eB;rw[if_neg hne,if_pos (by omega)]
  refine ba 1 rfl ?_
  refine W.ret (bz (bo (QF.br trivial rfl ?_)))
  simp only[norm,bW,hg]
 have h64:¬ 64 < ts.length:=by simp at h15;omega
 have hlen:ts.length≤maxLen:=by simp only[maxLen];omega
 refine ah (ca (qs (ae (aa (mkMap rfl ?_)))))
 refine pE rfl (ab (qs (ae (ba 4 rfl ?_))))
 refine W.block ?_
 refine W.b7 (ι:={x:Nat // match x with | k=>k≤ts.length∧((ts.take k).map GT.id).Nodup∧gw (ts.drop k) ((ts.take k).map GT.id)=gw ts []})
  (fun x=>match x.1 with | k=>[(1,.ptr 0 0),(3,.mp 1 (dO ik rZ (hZ (ts.take k) GT.id))),(24,.d (.v (.int .i64 ((k:Nat):Int))))]) [(22,_),(23,_)]
  (fun x=>match x.1 with | k=>[(0,(sd ts ds sn).map A.d)]) [] [1] 2 (fun x=>match x.1 with | k=>ts.length - k)
  [0,1] ⟨0,?_⟩ rfl ?_ ⟨rfl,rfl,rfl,rfl,trivial⟩ ?_ trivial rfl ?_
 · exact⟨Nat.zero_le _,List.nodup_nil,rfl⟩
 · repeat' first | exact trivial | refine⟨rfl,?_⟩
 · repeat' first | exact trivial | refine⟨rfl,?_⟩
 rintro⟨k,hk,hnd,hI⟩
 show W _ _ _ _ _ ⟨[(1,.ptr 0 0),(3,.mp 1 (dO ik rZ (hZ (ts.take k) GT.id))),(24,.d (.v (.int .i64 ((k:Nat):Int)))),(22,_),(23,_)],[(0,(sd ts ds sn).map A.d)],[1],2⟩
 refine ba 1 rfl ?_
 refine ae (cB (l:=ts) (k:=k) rfl (by simp[Ex.bA,bk]) hk (fun t hx hd hlt=>?_) (fun he hd=>?_))
 ·
  rw[hd,gw] at hI
  have hst:=qI (f:=GT.id) (ts.take k) t.id
  refine ah (qs (ae (W.block (ae (aa (pu (indexAddr aX rfl rfl rfl rfl rfl rfl (Int.natCast_nonneg _) (bN hx) rfl) rfl ?_))))))
  refine aZ 1 rfl ?_
  refine bK aX rfl rfl rfl (bl aX rfl rfl rfl rfl rfl rfl rfl rfl (ab (qs ?_)))
  iterate 2 refine ae ?_
  refine aa (aZ 1 rfl ?_)
  refine pu (bm rfl rfl rfl (AA t) rfl) rfl ?_
  refine pE rfl (ab (qs (ba 2 rfl ?_)))
  refine be rfl (fun h31=>?_) (fun h31=>?_)
  ·
   have ht:gw ts []=jW t:=by rw[←hI,if_pos (by simpa using h31)]
   have hg:eB ts ds sn=jW t:=by unfold eB;rw[if_neg hne,if_neg h64,if_pos (by rw[ht];simpa using h31),ht]
   refine ba 2 rfl ?_
   refine W.ret (bo (bz (bo (dI (bz (bo (QF.br trivial rfl ?_)))))))
   simp only[norm,bW,hg]
  rw[if_neg (by simpa using h31)] at hI
  refine ah (qs ?_)
  iterate 2 refine ae ?_
  refine aa (aZ 3 rfl ?_)
  refine pu (jS (kf:=ik) (vf:=rZ) (l:=hZ (ts.take k) GT.id) (a:=t.id) (z:=false) (r:=rZ (((ts.take k).map GT.id).any fun x=>decide (x=t.id))) aX rfl rfl rfl rfl rfl (eY (aX.eS rfl rfl)) rfl rfl rfl (fun _ _=>.v _ rfl) (by rw[ku];exact hnd) (by rw[hst])) rfl ?_
  refine ab (qs (be rfl (fun h36=>?_) (fun h36=>?_)))
  ·
   have ht:gw ts []=4:=by rw[←hI,if_pos h36]
   have hg:eB ts ds sn=4:=by unfold eB;rw[if_neg hne,if_neg h64,if_pos (by rw[ht];decide),ht]
   refine ba 1 rfl ?_
   refine W.ret (bo (bz (bo (dI (bz (bo (QF.br trivial rfl ?_)))))))
   simp only[norm,bW,hg]
  have hns:¬ (((ts.take k).map GT.id).any fun x=>decide (x=t.id))=true:=by rw[show(((ts.take k).map GT.id).any fun x=>decide (x=t.id))=false from h36];simp
  rw[if_neg hns] at hI
  have hti:(ts.take (k+1)).map GT.id=(ts.take k).map GT.id++[t.id]:=by rw[List.take_add_one,hx,List.map_append];rfl
  have hnm:t.id∉(ts.take k).map GT.id:=by intro q;exact hns (List.any_eq_true.2 ⟨_,q,by simp⟩)
  refine ah (qs (aa (aZ 3 rfl ?_)))
  first | refine mW (kf:=ik) (vf:=rZ) (l:=hZ (ts.take k) GT.id) (a:=t.id) (y:=true) aX 3 rfl rfl rfl rfl rfl rfl rfl (eY (aX.eS rfl rfl)) rfl rfl (by rw[ku];exact hnd) (by rw[xG hns hx]) rfl ?_
  refine ab (ca (qs (cQ 2 rfl ?_)))
  refine W.cr [0,3] ⟨k+1,?_⟩ ?_ rfl ?_ ⟨rfl,rfl,rfl,rfl,trivial⟩ ?_ trivial rfl
  · exact⟨hlt,by rw[hti,List.nodup_append];exact⟨hnd,by simp,fun a ha b hb=>by simp at hb;subst hb;rintro rfl;exact hnm ha⟩,by rw[hti];exact hI⟩
  · dsimp only;omega
  · repeat' first | exact trivial | refine⟨rfl,?_⟩ | refine⟨bJ (by assumption) (by assumption),?_⟩
  repeat' first | exact trivial | refine⟨rfl,?_⟩
 have ht:gw ts []=0:=by rw[←hI,hd];rfl
 have hG:eB ts ds sn=if eI ds sn≠0 then eI ds sn else if mK ds ts=false then 5 else 0:=by unfold eB;rw[if_neg hne,if_neg h64,if_neg (by rw[ht];simp)]
 refine an (bT (bR (bP (qs ?_))))
 iterate 2 refine ae ?_
 refine aa (aZ 4 rfl ?_)
 refine pu (bm rfl rfl rfl (BO ds sn) rfl) rfl ?_
 refine pE rfl (ab (qs (ba 2 rfl ?_)))
 refine be rfl (fun h47=>?_) (fun h47=>?_)
 ·
  have hg:eB ts ds sn=eI ds sn:=by rw[hG,if_pos (by simpa using h47)]
  refine ba 2 rfl ?_
  refine W.ret (bo (QF.br trivial rfl ?_))
  simp only[norm,bW,hg]
 rw[if_neg (by simpa using h47)] at hG
 refine ah (qs (ae (ba 4 rfl ?_)))
 refine W.block ?_
 refine W.b7 (ι:={x:Nat // match x with | k=>k≤ts.length∧mK ds (ts.take k)=true})
  (fun x=>match x.1 with | k=>[(1,.ptr 0 0),(52,.d (.v (.int .i64 ((k:Nat):Int))))]) [(50,_),(51,_)]
  (fun x=>match x.1 with | k=>[(0,(sd ts ds sn).map A.d)]) [] [] 1 (fun x=>match x.1 with | k=>ts.length - k)
  [0] ⟨0,?_⟩ rfl ?_ ⟨rfl,rfl,rfl,rfl,trivial⟩ ?_ trivial rfl ?_
 · exact⟨Nat.zero_le _,rfl⟩
 · repeat' first | exact trivial | refine⟨rfl,?_⟩
 · repeat' first | exact trivial | refine⟨rfl,?_⟩
 rintro⟨k,hk,hJ⟩
 show W _ _ _ _ _ ⟨[(1,.ptr 0 0),(52,.d (.v (.int .i64 ((k:Nat):Int)))),(50,_),(51,_)],[(0,(sd ts ds sn).map A.d)],[],1⟩
 refine ba 1 rfl ?_
 refine ae (cB (l:=ts) (k:=k) rfl (by simp[Ex.bA,bk]) hk (fun t hx hd hlt=>?_) (fun he hd=>?_))
 ·
  have htk:ts.take (k+1)=ts.take k++[t]:=by rw[List.take_add_one,hx];rfl
  refine ah (qs (ae (W.block (ae (aa (pu (indexAddr aX rfl rfl rfl rfl rfl rfl (Int.natCast_nonneg _) (bN hx) rfl) rfl ?_))))))
  refine aZ 1 rfl ?_
  refine bK aX rfl rfl rfl (bl aX rfl rfl rfl rfl rfl rfl rfl rfl (ab (qs (ae (aa (aZ 3 rfl ?_))))))
  refine pu (bm rfl rfl rfl (Ew ds t) rfl) rfl ?_
  refine pE rfl (ab (qs (be rfl (fun h60=>?_) (fun h60=>?_))))
  ·
   have hf:kX ds t.dom=false:=by simpa using h60
   have hg:eB ts ds sn=5:=by
    rw[hG,if_pos]
    cases q:mK ds ts with
    | false=>rfl
    | true=>have:=List.all_eq_true.1 q t (List.mem_of_getElem? hx);rw[hf] at this;cases this
   refine ba 1 rfl ?_
   refine W.ret (bz (bo (dI (bz (bo (QF.br trivial rfl ?_))))))
   simp only[norm,bW,hg]
  have hf:kX ds t.dom=true:=by simpa using h60
  refine ah (ca (qs (cQ 2 rfl ?_)))
  refine W.cr [0] ⟨k+1,?_⟩ ?_ rfl ?_ ⟨rfl,rfl,rfl,rfl,trivial⟩ ?_ trivial rfl
  · exact⟨hlt,by unfold mK at hJ ⊢;rw[htk,List.all_append,hJ];simp[hf]⟩
  · dsimp only;omega
  · repeat' first | exact trivial | refine⟨rfl,?_⟩ | refine⟨bJ (by assumption) (by assumption),?_⟩
  repeat' first | exact trivial | refine⟨rfl,?_⟩
 have hg:eB ts ds sn=0:=by
  rw[hG,if_neg]
  have e:ts.take k=ts:=List.take_of_length_le (by omega)
  rw[e] at hJ
  rw[hJ];simp
 refine an (bT (bR (bP (qs (ba 1 rfl ?_)))))
 refine W.ret (QF.br trivial rfl ?_)
 simp only[norm,bW,hg]
theorem zU (p:bw):[p.thread,p.serial,p.lost].any jl=true↔jl p.thread=true∨jl p.serial=true∨jl p.lost=true:=by simp
theorem Bm (p:bw):bq Tryz.prog 111 [.ag p.c] (.d (.v (.int .i64 (dT p)))) 0:=by
 have hlen:[p.thread,p.serial,p.lost].length≤maxLen:=by simp[maxLen]
 refine bq.bZ (n:=50) (ts:=[2]) Tryz.func111 (by kernel_rfl) rfl Tryz.ntmps111 Tryz.results111 rfl rfl fun C hC hG=>?_
 refine ae (aa (cG rfl rfl rfl (pE rfl (ab (qs ?_)))))
 iterate 2 refine ae ?_
 refine aa (aZ 6 rfl ?_)
 refine pu (b9 aX rfl rfl rfl rfl rfl rfl rfl rfl rfl) rfl ?_
 refine aZ 2 rfl ?_
 refine ab (qs (W.block ?_))
 refine W.b7 (ι:={x:Nat // match x with | k=>k≤[p.thread,p.serial,p.lost].length∧([p.thread,p.serial,p.lost].take k).any jl=false})
  (fun x=>match x.1 with | k=>[(1,.ptr 0 0),(13,.d (.v (.int .i64 ((k:Nat):Int))))]) [(11,_),(12,_)]
  (fun x=>match x.1 with | k=>[(0,p.c.map A.d)]) [] [] 1 (fun x=>match x.1 with | k=>[p.thread,p.serial,p.lost].length - k)
  [0] ⟨0,?_⟩ rfl ?_ ⟨rfl,rfl,rfl,rfl,trivial⟩ ?_ trivial rfl ?_
 · exact⟨Nat.zero_le _,rfl⟩
 · repeat' first | exact trivial | refine⟨rfl,?_⟩
 · repeat' first | exact trivial | refine⟨rfl,?_⟩
 rintro⟨k,hk,hI⟩
 show W _ _ _ _ _ ⟨[(1,.ptr 0 0),(13,.d (.v (.int .i64 ((k:Nat):Int)))),(11,_),(12,_)],[(0,p.c.map A.d)],[],1⟩
 refine ba 1 rfl ?_
 refine ae (cB (l:=[p.thread,p.serial,p.lost]) (k:=k) rfl (by simp[Ex.bA,bk]) hk (fun y hx hd hlt=>?_) (fun he hd=>?_))
 ·
  have htk:[p.thread,p.serial,p.lost].take (k+1)=[p.thread,p.serial,p.lost].take k++[y]:=by rw[List.take_add_one,hx];rfl
  refine ah (qs (ae (W.block (ae (aa (pu (indexAddr aX rfl rfl rfl rfl rfl rfl (Int.natCast_nonneg _) (bN (f:=ic) hx) rfl) rfl ?_))))))
  refine aZ 2 rfl ?_
  refine ab (qs (ae ?_))
  apply bL;(case hb=>rfl)
  ·
   refine aZ 3 rfl ?_
   apply fI;(case hj=>rfl);(case hl=>rfl)
   ·
    intro g19
    iterate 2 refine bC rfl rfl rfl rfl ?_
    refine pE rfl (ab (cc rfl rfl rfl))
   intro g19
   refine bH rfl rfl (pE rfl (bH rfl rfl (aZ 2 rfl ?_)))
   refine ab (cc rfl rfl rfl)
  refine qs (be rfl (fun h22=>?_) (fun h22=>?_))
  ·
   have hy:jl y=true:=by unfold jl;simp at h22 ⊢;omega
   have hg:dT p=2:=by unfold dT;rw[if_pos ((zU p).1 (List.any_eq_true.2 ⟨y,List.mem_of_getElem? hx,hy⟩))]
   refine ba 1 rfl ?_
   refine W.ret (bz (bo (dI (bz (bo (QF.br trivial rfl ?_))))))
   rw[hg];rfl
  have hy:jl y=false:=by unfold jl;simp at h22 ⊢;omega
  refine ah (ca (qs (cQ 2 rfl ?_)))
  refine W.cr [0] ⟨k+1,?_⟩ ?_ rfl ?_ ⟨rfl,rfl,rfl,rfl,trivial⟩ ?_ trivial rfl
  · exact⟨hlt,by rw[htk,List.any_append,hI];simp[hy]⟩
  · dsimp only;omega
  · repeat' first | exact trivial | refine⟨rfl,?_⟩ | refine⟨bJ (by assumption) (by assumption),?_⟩
  repeat' first | exact trivial | refine⟨rfl,?_⟩
 have hno:¬ (jl p.thread=true∨jl p.serial=true∨jl p.lost=true):=by
  rw[←zU]
  have e:[p.thread,p.serial,p.lost].take k=[p.thread,p.serial,p.lost]:=List.take_of_length_le (by omega)
  rw[e] at hI
  rw[hI];simp
 refine an (bT (bR (bP (qs (ae (W.block (ae (ba 6 rfl ?_))))))))
 refine be rfl (fun h24=>?_) (fun h24=>?_)
 ·
  have hg:dT p=2:=by unfold dT;rw[if_neg hno,if_pos (by simp_all)]
  refine ah (qs (W.js rfl (ba 1 rfl ?_)))
  refine W.ret (bz (bo (QF.br trivial rfl ?_)))
  rw[hg];rfl
 refine cQ 8 rfl ?_
 refine qs (be rfl (fun h24=>?_) (fun h24=>?_))
 ·
  have hg:dT p=2:=by unfold dT;rw[if_neg hno,if_pos (by simp_all)]
  refine ba 1 rfl ?_
  refine W.ret (bz (bo (QF.br trivial rfl ?_)))
  rw[hg];rfl
 refine ba 5 rfl ?_
 refine be rfl (fun h37=>?_) (fun h37=>?_)
 ·
  have hg:dT p=8:=by unfold dT;rw[if_neg hno,if_neg (by simp_all),if_pos (by simp_all)]
  refine ba 1 rfl ?_
  refine W.ret (bz (bo (QF.br trivial rfl ?_)))
  rw[hg];rfl
 refine ba 5 rfl ?_
 refine be rfl (fun h42=>?_) (fun h42=>?_)
 ·
  have hg:dT p=7:=by unfold dT;rw[if_neg hno,if_neg (by simp_all),if_neg (by simp_all),if_pos (by simp at h42;omega)]
  refine ba 1 rfl ?_
  refine W.ret (bz (bo (QF.br trivial rfl ?_)))
  rw[hg];rfl
 have hg:dT p=iU p.evs none:=by unfold dT;rw[if_neg hno,if_neg (by simp_all),if_neg (by simp_all),if_neg (by simp at h42;omega)]
 refine ah (ca (qs (ae (aa (aZ 2 rfl ?_)))))
 refine pu (bm rfl rfl rfl (sv ..) rfl) rfl ?_
 refine pE rfl (ab (qs (W.ret (QF.br trivial rfl ?_))))
 rw[hg];rfl
theorem zb (p:bw) (t:Int×Int) (h:dT p=0):cm Tryz.prog 112 [.ptr 0 0,.ag p.c] [[.d (ci t.1),.d (ci t.2)]] 0 (.d (.v (.bool (nw t p)))) [[.d (ci t.1),.d (ci t.2)]] 0:=by
 obtain⟨h1,h2,h3,h4,h5,_⟩:=gy h;obtain⟨th,I,lo,evs⟩:=p;simp only at h1 h2 h3 h4 h5;obtain⟨e,r,he⟩:∃ e r,evs=e::r:=by
  cases evs with
  | nil=>exact absurd Z h4
  | cons e r=>exact⟨e,r,rfl⟩
 subst he;refine cm.dQ aX (n:=27) (rs:=[.tmp 4]) Tryz.func112 (by kernel_rfl) Z Tryz.ntmps112 Tryz.results112 Z Z fun C hC J=>?_;refine ae (aa (cG Z Z Z (pE Z (ab (qs (ae ?_))))));apply mP aX;(case hb=>rfl);(case hB=>kernel_rfl);·
  refine bF (ev aX Z) Z ?_;refine bF (ev aX Z) Z ?_;refine bF (ev aX Z) Z ?_;refine bF (ev aX Z) Z ?_;refine bF (dP (ev aX Z) (y:=I - lo) (by show IntKind.i64.wrap (I - lo)=_;exact wrap64 (by omega))) Z ?_;iterate 3 refine bF (ev aX Z) Z ?_
  refine bF (ev aX Z) Z ?_;iterate 2 refine bF (ev aX Z) Z ?_
  apply xA;(case hj=>rfl);(case hl=>rfl);·
   refine dn Z Z (ev aX Z) Z ?_;refine dn Z Z (ev aX Z) Z ?_;refine dn Z Z (indexAddr (l:=e.c) aX Z Z Z Z Z Z (by decide) Z Z) Z ?_;refine dn Z Z (ev aX Z) Z ?_;refine dn Z Z (ev aX Z) Z ?_;refine dn Z Z (ev aX Z) Z ?_;refine dn Z Z (ev aX Z) Z ?_;refine dn Z Z (ev aX Z) Z ?_;refine dn Z Z (ev aX Z) Z ?_;refine dn Z Z (ev aX Z) Z ?_;iterate 2 refine bF (ev aX Z) Z ?_
   refine aq ?_;refine cc Z Z Z
  iterate 10 refine qP Z Z Z Z ?_
  iterate 2 refine bF (ev aX Z) Z ?_
  refine aq ?_;refine cc Z Z Z
 refine qs (W.ret (ak aX [] trivial Z Z Z Z ?_ ?_));·exact⟨rfl,trivial⟩
 simp only[norm,bW];unfold nw;cases decide (I - lo=t.1) <;> rfl
theorem yZ (p:bw) (t:Int×Int) (h:dT p=0):cm Tryz.prog 113 [.ptr 0 0,.ag p.c] [[.d (ci t.1),.d (ci t.2)]] 0 (.tup []) [[.d (ci (p.serial+p.evs.length)),.d (ci (nL p))]] 0:=by
 obtain⟨h1,h2,h3,h4,h5,_⟩:=gy h;obtain⟨th,I,lo,evs⟩:=p;simp only at h1 h2 h3 h4 h5;obtain⟨n,J⟩:∃ n,evs.length=n+1:=⟨evs.length - 1,by have:=List.length_pos_iff.2 h4;omega⟩;obtain⟨z,M⟩:∃ z,evs[n]? = some z:=⟨evs[n]'(by omega),by simp⟩;have N:nL ⟨th,I,lo,evs⟩=z.time:=by unfold nL;rw[List.getLast?_eq_getElem?,J,Nat.add_sub_cancel,M]
 rw[N];refine cm.dQ aX (n:=25) (rs:=[]) Tryz.func113 (by kernel_rfl) Z Tryz.ntmps113 Tryz.results113 Z Z fun C hC O=>?_;refine ae (aa (cG Z Z Z (ab (qs (ae (aa (aZ 6 Z ?_)))))));refine pu (dP (ev aX Z) (y:=I+(evs.length:Int)) (by show IntKind.i64.wrap (I+((evs.map Ev.c).length:Nat))=_;rw[List.length_map,wrap64 (by omega)])) Z ?_;refine aZ 2 Z ?_;refine bl aX Z Z Z Z Z Z Z Z (ab (qs (aa (aZ 6 Z ?_))));refine pu (dP (ev aX Z) (y:=(n:Int)) (by show IntKind.i64.wrap (((evs.map Ev.c).length:Nat) - (1:Int))=_;rw[List.length_map,J,wrap64 (by omega)];omega)) Z ?_;refine pu (indexAddr (l:=z.c) aX Z Z Z Z Z Z (Int.natCast_nonneg _) (bN M) Z) Z ?_;refine aZ 4 Z ?_;refine bl aX Z Z Z Z Z Z Z Z (ab (ak aX [] trivial Z Z Z Z ?_ ?_));·exact⟨rfl,trivial⟩
 rfl
theorem CU (ts:List GT) (ds:List (Int×Int)) (sn:List Sn) (ps:List bw) (h64:ts.length≤64) (hnd0:(ts.map GT.id).Nodup) (h8:ps.length≤8):bq Tryz.prog 68 [.ag (sd ts ds sn),.d (.sl (ps.map bw.c))] (.d (.v (.int .i64 (gH (ts.map GT.id) [] ps)))) 0:=by
 obtain⟨ids,hids⟩:∃ ids,ids=ts.map GT.id:=⟨_,rfl⟩
 have hnd:ids.Nodup:=hids▸hnd0
 rw[←hids]
 have hlen:ts.length≤maxLen:=by simp only[maxLen];omega
 have hlen2:ps.length≤maxLen:=by simp only[maxLen];omega
 refine bq.bZ (n:=63) (ts:=[4]) Tryz.func68 (by kernel_rfl) rfl Tryz.ntmps68 Tryz.results68 rfl rfl fun C hC hG=>?_
 refine ae (aa (cG rfl rfl rfl (pE rfl (ab (qs (ae (aa (mkMap rfl ?_))))))))
 refine pE rfl (ab (qs (ae (ba 4 rfl ?_))))
 refine W.block (G7 0 0 rfl rfl ?_)
 refine W.b7 (ι:={x:Nat×List (Nat×List D) // match x with | (k,l)=>k≤ts.length∧l.length=k∧∀ q∈l,q.2=z2})
  (fun x=>match x.1 with | (k,l)=>[(1,.d (.sl (ps.map bw.c))),(5,.mp 1 (dO ik nu (jT (ids.take k) l))),(18,.d (.v (.int .i64 ((k:Nat):Int))))]) [(16,_),(17,_)]
  (fun x=>match x.1 with | (k,l)=>[(0,[.gi 2 (kB l none),.d (.sl (ds.map dC)),.d (.sl (sn.map Sn.c))])]) [] [1,2] 3 (fun x=>match x.1 with | (k,l)=>ts.length - k)
  [0,1,2] ⟨(0,[]),?_⟩ rfl ?_ ⟨rfl,rfl,rfl,rfl,trivial⟩ ?_ trivial rfl ?_
 · exact⟨Nat.zero_le _,rfl,fun q hq=>nomatch hq⟩
 · repeat' first | exact trivial | refine⟨rfl,?_⟩
 · repeat' first | exact trivial | refine⟨rfl,?_⟩
 rintro⟨⟨k,l⟩,hk,hlk,hz⟩
 show W _ _ _ _ _ ⟨[(1,.d (.sl (ps.map bw.c))),(5,.mp 1 (dO ik nu (jT (ids.take k) l))),(18,.d (.v (.int .i64 ((k:Nat):Int)))),(16,_),(17,_)],[(0,[.gi 2 (kB l none),.d (.sl (ds.map dC)),.d (.sl (sn.map Sn.c))])],[1,2],3⟩
 refine ba 1 rfl ?_
 refine ae (cB (l:=ts) (k:=k) rfl (by simp[Ex.bA,bk]) hk (fun t hx hd hlt=>?_) (fun he hd=>?_))
 ·
  have hti:ids[k]? = some t.id:=by rw[hids];simp[hx]
  refine ah (qs (ae (W.block (ae (aa (pu (indexAddr aX rfl rfl rfl rfl rfl rfl (Int.natCast_nonneg _) (bN hx) rfl) rfl ?_))))))
  refine aZ 1 rfl ?_
  refine bK aX rfl rfl rfl (bl aX rfl rfl rfl rfl rfl rfl rfl rfl (ab (qs (aa (aZ 3 rfl ?_)))))
  refine pu (build aX rfl rfl rfl rfl) rfl ?_
  refine cG rfl rfl rfl (H7 (y:=z2) 0 0 26 rfl rfl rfl rfl rfl rfl rfl rfl rfl rfl rfl fun c=>?_)
  first | refine mW (kf:=ik) (vf:=nu) (l:=jT (ids.take k) l) (a:=t.id) (y:=qF c) aX 5 rfl rfl rfl rfl rfl rfl rfl (eY (aX.eS rfl rfl)) rfl rfl (by rw[sD (by rw[List.length_take];omega)];exact hnd.sublist (List.take_sublist _ _)) (by rw[Gm c z2 hnd hlk hti]) rfl ?_
  refine ab (ca (qs (cQ 2 rfl ?_)))
  refine W.cr [0,7,6] ⟨(k+1,l++[(c,z2)]),?_⟩ ?_ rfl ?_ ⟨rfl,rfl,rfl,rfl,trivial⟩ ?_ trivial rfl
  · exact⟨hlt,by simp[hlk],fun q hq=>by rcases List.mem_append.1 hq with q1 | q1;exact hz q q1;simp at q1;subst q1;rfl⟩
  · dsimp only;omega
  · repeat' first | exact trivial | refine⟨rfl,?_⟩ | refine⟨bJ (by assumption) (by assumption),?_⟩
  repeat' first | exact trivial | refine⟨rfl,?_⟩
 have hkt:ids.take k=ids:=List.take_of_length_le (by rw[hids,List.length_map];omega)
 rw[hkt]
 have hat0:lr ids l []:=aK (by rw[hlk,hids,List.length_map];omega) hz
 obtain⟨l0,hl0⟩:∃ l0,l0=l:=⟨_,rfl⟩
 rw[show jT ids l=jT ids l0 from by rw[hl0]]
 have hke:(jT ids l0).map (·.1)=ids:=sD (by rw[hl0,hat0.1];exact Nat.le_refl _)
 refine an (bT (bR (bP (qs (ba 1 rfl ?_)))))
 refine ae (ba 3 rfl ?_)
 refine W.block ?_
 refine W.b7 (ι:={x:Nat×List (Nat×List D)×Nat // match x with | (k,m,c)=>k≤ps.length∧gH ids (ps.take k) (ps.drop k)=gH ids [] ps∧lr ids m (ps.take k)∧m.map (·.1)=l0.map (·.1)∧c≤1000*k})
  (fun x=>match x.1 with | (k,m,c)=>[(5,.mp 1 (dO ik nu (jT ids l0))),(8,.d (.v (.int .i64 ((c:Nat):Int)))),(30,.d (.v (.int .i64 ((k:Nat):Int))))]) [(28,_),(29,_)]
  (fun x=>match x.1 with | (k,m,c)=>[(0,[.gi 2 (kB m none),.d (.sl (ds.map dC)),.d (.sl (sn.map Sn.c))])]) [] [1,2] 3 (fun x=>match x.1 with | (k,m,c)=>ps.length - k)
  [0,1,2] ⟨(0,l,0),?_⟩ rfl ?_ ⟨rfl,rfl,rfl,rfl,trivial⟩ ?_ trivial rfl ?_
 · exact⟨Nat.zero_le _,rfl,hat0,by rw[hl0],Nat.zero_le _⟩
 · repeat' first | exact trivial | refine⟨rfl,?_⟩
 · repeat' first | exact trivial | refine⟨rfl,?_⟩
 rintro⟨⟨k,m,c⟩,hk2,hI,hat,hfs,hc⟩
 show W _ _ _ _ _ ⟨[(5,.mp 1 (dO ik nu (jT ids l0))),(8,.d (.v (.int .i64 ((c:Nat):Int)))),(30,.d (.v (.int .i64 ((k:Nat):Int)))),(28,_),(29,_)],[(0,[.gi 2 (kB m none),.d (.sl (ds.map dC)),.d (.sl (sn.map Sn.c))])],[1,2],3⟩
 have hk:=hk2
 refine ba 1 rfl ?_
 refine ae (cB (l:=ps) (k:=k) rfl (by simp[Ex.bA,bk]) hk (fun p hx hd hlt=>?_) (fun he hd=>?_))
 ·
  have htk:ps.take (k+1)=ps.take k++[p]:=by rw[List.take_add_one,hx];rfl
  rw[hd,gH] at hI
  obtain⟨r,hr⟩:∃ r,(cb (jT ids l0) p.thread).getD (.v (.pointer none))=r:=⟨_,rfl⟩
  obtain⟨q,hq⟩:∃ q,(cb (jT ids l0) p.thread).isSome=q:=⟨_,rfl⟩
  refine ah (qs (ae (W.block (ae (aa (pu (indexAddr aX rfl rfl rfl rfl rfl rfl (Int.natCast_nonneg _) (bN hx) rfl) rfl ?_))))))
  refine aZ 1 rfl ?_
  refine bK aX rfl rfl rfl (bl aX rfl rfl rfl rfl rfl rfl rfl rfl (ab (qs ?_)))
  iterate 2 refine ae ?_
  refine aa (aZ 1 rfl ?_)
  refine pu (bm rfl rfl rfl (Bm p) rfl) rfl ?_
  refine pE rfl (ab (qs (ba 2 rfl ?_)))
  refine be rfl (fun h37=>?_) (fun h37=>?_)
  ·
   have hg:gH ids [] ps=dT p:=by rw[←hI,if_pos (by simpa using h37)]
   refine ba 2 rfl ?_
   refine W.ret (bo (bz (bo (dI (bz (bo (QF.br trivial rfl ?_)))))))
   rw[hg];rfl
  have hpk:dT p=0:=by simpa using h37
  rw[if_neg (by simp[hpk])] at hI
  have hpl:=(gy hpk).2.2.2.2.1
  refine ah (qs (ae (aa (aZ 3 rfl ?_))))
  refine pu (F5 (kf:=ik) (vf:=nu) (l:=jT ids l0) (a:=p.thread) (z:=.v (.pointer none)) (r:=r) (q:=q) aX rfl rfl rfl rfl rfl (eY (aX.eS rfl rfl)) rfl rfl rfl (fun _ _=>.v _ rfl) (by rw[hke];exact hnd) hr hq) rfl ?_
  refine aZ 5 rfl ?_
  refine ab (qs (ae (ba 2 rfl ?_)))
  refine be rfl (fun h47=>?_) (fun h47=>?_)
  ·
   have hm:p.thread∉ids:=by
    intro hm
    obtain⟨ix,hix⟩:=List.mem_iff_getElem?.1 hm
    obtain⟨c',h2⟩:=hat.2 ix _ hix
    obtain⟨y0,h3⟩:=Cj hfs h2
    rw[vu hnd hix h3] at hq
    simp at hq
    subst hq
    simp at h47
   have hg:gH ids [] ps=5:=by rw[←hI,if_pos hm]
   refine ba 1 rfl ?_
   refine W.ret (bo (bz (bo (dI (bz (bo (QF.br trivial rfl ?_)))))))
   rw[hg];rfl
  have hm:p.thread∈ids:=by
   refine Decidable.byContradiction fun hm=>?_
   rw[Ea hm] at hq
   simp at hq
   subst hq
   simp at h47
  rw[if_neg (by simp[hm])] at hI
  obtain⟨ix,hix⟩:=List.mem_iff_getElem?.1 hm
  obtain⟨c',hl2⟩:=hat.2 ix _ hix
  obtain⟨y0,h3⟩:=Cj hfs hl2
  have hr2:r=qF c':=by rw[←hr,vu hnd hix h3];rfl
  subst hr2
  refine ah (qs ?_)
  iterate 2 refine ae ?_
  refine HI 0 0 12 43 ix rfl rfl rfl rfl hl2 rfl rfl rfl rfl ?_
  refine aa (aZ 2 rfl ?_)
  refine bG [6] [] rfl rfl rfl rfl rfl ((zb p (jv (ps.take k) p.thread) hpk)) rfl rfl (by rfl) (by rfl) rfl rfl rfl rfl ?_
  refine pE rfl (ab (qs (be rfl (fun h51=>?_) (fun h51=>?_))))
  ·
   have hg:gH ids [] ps=11:=by rw[←hI,if_pos (by simpa using h51)]
   refine ba 1 rfl ?_
   refine W.ret (bo (bz (bo (dI (bz (bo (QF.br trivial rfl ?_)))))))
   rw[hg];rfl
  rw[if_neg (by simpa using h51),←htk] at hI
  refine ah (qs (ae (aa (aZ 2 rfl ?_))))
  refine bG [6] [] rfl rfl rfl rfl rfl ((yZ p (jv (ps.take k) p.thread) hpk)) rfl rfl (by rfl) (by rfl) rfl rfl rfl rfl ?_
  refine ab (qs (Fx (y:=[ci (p.serial+p.evs.length),ci (nL p)]) 0 0 43 ix rfl rfl rfl hl2 rfl rfl rfl rfl rfl rfl rfl rfl ?_))
  refine aa (aZ 4 rfl ?_)
  refine pu (dP (ev aX rfl) (y:=((c+p.evs.length:Nat):Int)) (by show IntKind.i64.wrap ((c:Int)+((p.evs.map Ev.c).length:Nat))=_;rw[List.length_map,wrap64 (by omega)];omega)) rfl ?_
  refine pE rfl (ab (ca (qs (cQ 2 rfl ?_))))
  refine W.cr [0,1,10] ⟨(k+1,m.set ix (c',[ci (p.serial+p.evs.length),ci (nL p)]),c+p.evs.length),?_⟩ ?_ rfl ?_ ⟨rfl,rfl,rfl,rfl,trivial⟩ ?_ trivial rfl
  · exact⟨hlt,hI,by rw[htk];exact hat.step hnd hix hl2,by rw[aM hl2];exact hfs,by omega⟩
  · dsimp only;omega
  · repeat' first | exact trivial | refine⟨rfl,?_⟩ | refine⟨bJ (by assumption) (by assumption),?_⟩
  repeat' first | exact trivial | refine⟨rfl,?_⟩
 have hg:gH ids [] ps=0:=by rw[←hI,hd];rfl
 refine an (bT (bR (bP (qs (ae (ba 2 rfl ?_))))))
 refine be rfl (fun h62=>?_) (fun h62=>?_)
 ·
  exfalso;simp at h62;omega
 refine ah (qs (ba 1 rfl ?_))
 refine W.ret (QF.br trivial rfl ?_)
 rw[hg];rfl
def JL (es evs:List Ev) (j:Nat):List Ev:=if j=0 then es else es++evs
theorem El (th I lo:Int) (rows:List (List D)) (v:Value) (es evs:List Ev) (l2:List (Value×List Ev)) (i:Nat) (hi:l2[i]? = some (v,es)) (O:Iv) (h0:0 < evs.length) (hl:es.length+evs.length≤1000) (a7:rows.length≤100) (a8:∀ (x:List D),x∈rows→x.length=4) :
 ru Tryz.prog 69 [.xs 1 (rows++[iO th I lo v]),.d (.sl (evs.map Ev.c))] [[.gi 2 (iT Ev.c l2 none),.any,.gi 3 O,.any]] 3
  (fun r b1=>∃ M,True∧r=.xs 1 (rows++[iO th I lo M])∧b1=[[.gi 2 (iT Ev.c (l2.set i (M,es++evs)) none),.any,.gi 3 O,.any]]) 3:=by
 have b0:i < l2.length:=(List.getElem?_eq_some_iff.1 hi).1;have J:l2.set i (v,es)=l2:=by rw[←(List.getElem?_eq_some_iff.1 hi).2];exact List.set_getElem_self _
 have X:∀ u,(rows++[iO th I lo u])[((rows.length:Nat):Int).toNat]? = some (iO th I lo u):=fun u=>by rw[Int.toNat_natCast,List.getElem?_append_right (Nat.le_refl _),Nat.sub_self];rfl
 have U:∀ u u',(rows++[iO th I lo u]).set rows.length (mN (iO th I lo u) 3 [.v u'])=rows++[iO th I lo u']:=fun u u'=>by rw[List.set_append_right _ _ (Nat.le_refl _),Nat.sub_self];rfl
 refine ru.dQ aX (n:=54) (rs:=[.tmp 4]) Tryz.func69 (by kernel_rfl) Z Tryz.ntmps69 Tryz.results69 Z fun C hC hG=>?_;refine ba 1 Z ?_;refine ae (W.block ?_)
 refine W.b7 (ι:={x:Nat×Value×List (Value×List Ev) // match x with | (j,u,m)=>j≤1∧(j=0→u=v)∧m=l2.set i (u,JL es evs j)})
  (fun x=>match x.1 with | (j,u,m)=>[(0,.xs 1 (rows++[iO th I lo u])),(1,.d (.sl ((v8 evs j).map Ev.c)))]) []
  (fun x=>match x.1 with | (j,u,m)=>[(0,[.gi 2 (iT Ev.c m none),.any,.gi 3 O,.any])]) [] [1,2,3] 4 (fun x=>match x.1 with | (j,u,m)=>1 - j)
  [0,1,2,3] ⟨(0,v,l2),?_⟩ Z ?_ trivial ?_ trivial Z ?_
 ·exact⟨Nat.zero_le _,fun _=>rfl,J.symm⟩
 ·repeat' constructor
 ·repeat' constructor
 rintro⟨⟨j,u,m⟩,hj,hu,hm⟩;show W _ _ _ _ _ ⟨[(0,.xs 1 (rows++[iO th I lo u])),(1,.d (.sl ((v8 evs j).map Ev.c)))],[(0,[.gi 2 (iT Ev.c m none),.any,.gi 3 O,.any])],[1,2,3],4⟩;refine ae (ba 3 Z ?_);refine be Z (fun N=>?_) (fun N=>?_);·
  have ai:j=0:=by
   match j,hj with
   | 0,_=>rfl
   | 1,_=>exfalso;simp[v8] at N
  subst ai;have aj:=hu Z;subst aj;have a1:m=l2:=by rw[hm];exact J
  subst a1;refine ah (qs (W.block (ae (aa (aZ 2 Z ?_)))));refine pu (xk aX Z Z Z Z) Z ?_;refine pu (dP (ev aX Z) (y:=((rows.length:Nat):Int)) (by show IntKind.i64.wrap (((rows++[iO th I lo u]).length:Nat) - (1:Int))=_;rw[List.length_append,wrap64 (by simp;omega)];simp)) Z ?_;refine pu (uy (l:=iO th I lo u) aX Z Z Z Z Z Z (Int.natCast_nonneg _) (X u) Z) Z ?_;refine pE Z (ab (qs (ae (aa (pE Z (pu (qq Z Z) Z ?_))))));refine pu (jP aX Z Z Z Z Z Z) Z ?_;refine pu (Iz 0 0 i Z Z Z hi Z (rN aX Z Z Z)) Z ?_;refine pE Z (pu (dP (ev aX Z) (y:=((1000 - es.length:Nat):Int)) (by show IntKind.i64.wrap ((1000:Int) - ((es.map Ev.c).length:Nat))=_;rw[List.length_map,wrap64 (by omega)];omega)) Z ?_);refine aZ 2 Z ?_;refine pu (dP (ev aX Z) (y:=(evs.length:Int)) (by show(if (((evs.map Ev.c).length:Nat):Int) < ((1000 - es.length:Nat):Int) then (((evs.map Ev.c).length:Nat):Int) else ((1000 - es.length:Nat):Int))=_;rw[List.length_map];split <;> omega)) Z ?_;refine pE Z (ab (qs (ae (ba 2 Z ?_))));refine be Z (fun ad=>?_) (fun ad=>?_);·exfalso;have:=of_decide_eq_true ad;omega
  refine ah (qs (ae (Fq 0 0 1 i Z Z Z hi Z Z Z ?_)));apply W.rL aX 9 8;(case hB=>kernel_rfl);(case h1=>rfl);(case h2=>rfl);refine' iD ?p1_1 (ev aX Z) Z Z Z Z Z ?h_1;case' h_1=>skip
  refine' iD ?p1_2 (ev aX Z) Z Z Z Z Z ?h_2;case' h_2=>skip
  refine' iD ?p1_3 (qq Z Z) Z Z Z Z Z ?h_3;case' h_3=>skip
  refine' iD ?p1_4 (jP aX Z Z Z Z Z Z) Z Z Z Z Z ?h_4;case' h_4=>skip
  refine' nN (Is 0 1 Z Z (rN aX Z Z Z)) Z Z Z Z Z ?h_5;case' h_5=>skip
  refine' iD ?p1_6 (ev aX Z) Z Z Z Z Z ?h_6;case' h_6=>skip
  refine' iD ?p1_7 (ev aX Z) Z Z Z Z Z ?h_7;case' h_7=>skip
  refine' nN (oq (fn:=Ev.c) (l:=evs) (i:=0) (j:=(evs.length:Int)) (r:=evs) aX Z Z Z Z Z (fun _=>rfl) Z Z (by decide) (by omega) (by omega) (by rw[show((evs.length:Int)).toNat=evs.length from rfl,List.take_length];rfl)) Z Z Z Z Z ?h_8;case' h_8=>skip
  refine' E3 (fun g=>?e_9) Z Z Z ?h_9;case e_9=>refine pT (l:=es) (l2:=evs) (fn:=Ev.c) aX Z Z Z Z Z Z Z Z Z Z (fun _=>rfl) (by show(es.length+evs.length)*72≤_;omega) ?_;refine ab ?_;exact⟨rfl,rfl⟩
  case' h_9=>skip
  case p1_1=>exact(ev aX Z)
  case p1_2=>exact(ev aX Z)
  case p1_3=>exact(qq Z Z)
  case p1_4=>exact(jP aX Z Z Z Z Z Z)
  case p1_6=>exact(ev aX Z)
  case p1_7=>exact(ev aX Z)
  refine aE ?_;refine pu (qq Z Z) Z ?_;refine pu (jP aX Z Z Z Z Z Z) Z ?_;refine Gz 47 26 Z Z Z fun M b2=>?_;refine ux aX 0 Z Z Z Z (X u) Z Z Z Z Z Z (U u M) Z ?_;refine ab (qs (HV (es:=es++evs) 0 0 26 i Z Z Z Z Z Z Z Z Z Z ?_));refine aa (aZ 2 Z ?_);refine pu (oq (fn:=Ev.c) (l:=evs) (i:=(evs.length:Int)) (j:=(evs.length:Int)) (r:=[]) aX Z Z Z Z Z (fun _=>rfl) Z Z (by omega) (by omega) (by omega) (by show(evs.take evs.length).drop evs.length=[];rw[List.take_length,List.drop_length])) Z ?_;refine pE Z (ab (ca (W.cr [0,7,8,3] ⟨(1,M,m.set i (M,es++evs)),?_⟩ ?_ Z ?_ trivial ?_ trivial Z)));·exact⟨Nat.le_refl _,(fun h=>by cases h),rfl⟩
  ·dsimp only;omega
  ·repeat' constructor
  repeat' constructor
 have a6:j=1:=by
  match j,hj with
  | 0,_=>exfalso;have N:=of_decide_eq_false N;rw[List.length_map] at N;simp only[v8] at N;omega
  | 1,_=>rfl
 subst a6;subst hm;refine an (bT (bR (bP (qs (ba 2 Z ?_)))));refine W.ret (E4.ret _ _ ⟨u,trivial,rfl,rfl⟩ Z (ak aX [1,2,3] trivial Z Z Z Z ?_ ?_));·exact⟨rfl,trivial⟩
 rfl
theorem Gb (ts:List GT) (ds:List (Int×Int)) (sn:List Sn) (ps:List bw) (h8:ps.length≤8) (hF:(∀ p∈ps,dT p=0)→total ps≤1000):bq Tryz.prog 22 [.ag (sd ts ds sn),.d (.sl (ps.map bw.c))] (.tup [.ag (gX ts ds sn ps).1.c,.d (ci (gX ts ds sn ps).2)]) 0:=by
 have hlen0:ps.length≤maxLen:=by simp only[maxLen];omega
 refine bq.dQ aX (n:=84) (rs:=[.cell 4 30,.tmp 5]) Tryz.func22 (by kernel_rfl) rfl Tryz.ntmps22 Tryz.results22 rfl fun C hC hG=>?_
 refine ae (aa (cG rfl rfl rfl (bK aX rfl rfl rfl (pE rfl (ab (qs ?_))))))
 iterate 2 refine ae ?_
 refine aa (aZ 1 rfl ?_)
 refine pu (bm rfl rfl rfl ((DY _ _ _)) rfl) rfl ?_
 refine pE rfl (ab (qs (ba 2 rfl ?_)))
 refine be rfl (fun h18=>?_) (fun h18=>?_)
 ·
  have hg:gX ts ds sn ps=(wW,eB ts ds sn):=by unfold gX;rw[if_pos (by simpa using h18)]
  refine ae (aa (pu (build aX rfl rfl rfl rfl) rfl ?_))
  refine iy 19 rfl rfl rfl ?_
  refine pE rfl (bl aX rfl rfl rfl rfl rfl rfl rfl rfl (pE rfl (ab (qs (W.ret (bo (QV.br aX trivial rfl ?_)))))))
  rw[hg];rfl
 have h0:eB ts ds sn=0:=by simpa using h18
 obtain⟨h64,hnd⟩:=w8 h0
 have htm:ts.length≤maxLen:=by simp only[maxLen];omega
 refine ah (qs ?_)
 iterate 2 refine ae ?_
 refine aa (aZ 2 rfl ?_)
 refine pu (bm rfl rfl rfl ((CU _ _ _ _ (by assumption) (by assumption) (by assumption))) rfl) rfl ?_
 refine pE rfl (ab (qs (ba 2 rfl ?_)))
 refine be rfl (fun h25=>?_) (fun h25=>?_)
 ·
  have hg:gX ts ds sn ps=(wW,gH (ts.map GT.id) [] ps):=by unfold gX;rw[if_neg (by simp[h0]),if_pos (by simpa using h25)]
  refine ae (aa (pu (build aX rfl rfl rfl rfl) rfl ?_))
  refine iy 26 rfl rfl rfl ?_
  refine pE rfl (bl aX rfl rfl rfl rfl rfl rfl rfl rfl (pE rfl (ab (qs (W.ret (bo (QV.br aX trivial rfl ?_)))))))
  rw[hg];rfl
 have hc0:gH (ts.map GT.id) [] ps=0:=by simpa using h25
 have hg:gX ts ds sn ps=(⟨ts,ds,sn,ts.flatMap fun t=>cp t.id ps⟩,0):=by unfold gX;rw[if_neg (by simp[h0]),if_neg (by simpa using h25)]
 have hpk:=oH hc0
 have hT:=hF fun p hp=>(hpk p hp).1
 refine ah (qs (ae (aa (mkMap rfl ?_))))
 refine pE rfl (ab (qs (ae (ba 3 rfl ?_))))
 refine W.block (H5 Ev.c 1 0 rfl rfl ?_)
 refine Je 1 2 rfl rfl ?_
 refine zy 1 1 rfl rfl ?_
 refine zy 1 3 rfl rfl ?_
 refine W.len (t:=29) rfl rfl (fun hlen=>?_)
 try simp only[List.length_map,Ex.bA] at hlen
 refine W.b7 (ι:={x:Nat×PL×List (Value×List (List D))×List (Value×List Ev) // match x with | (k,L,l,l2)=>k≤ps.length∧kC L l l2 (ps.take k)})
  (fun x=>match x.1 with | (k,L,l,l2)=>[(2,.ptr 0 0),(4,.ptr 1 0),(8,.mp 2 (dO ik nu (iq (L.map (·.1)) l))),(31,.d (.v (.int .i64 ((k:Nat):Int))))]) [(29,_),(30,_)]
  (fun x=>match x.1 with | (k,L,l,l2)=>[(0,(sd ts ds sn).map A.d),(1,[.gi 3 (iT Ev.c l2 none),.any,.gi 4 (xI l none),.any])]) [] [2,3,4] 5 (fun x=>match x.1 with | (k,L,l,l2)=>ps.length - k)
  [0,1,2,3,4] ⟨(0,[],[],[]),?_⟩ rfl ?_ ⟨rfl,rfl,rfl,rfl,trivial⟩ ?_ trivial rfl ?_
 · exact⟨Nat.zero_le _,kC.nil⟩
 · repeat' first | exact trivial | refine⟨rfl,?_⟩
 · repeat' first | exact trivial | refine⟨rfl,?_⟩
 rintro⟨⟨k,L,l,l2⟩,hk,hP⟩
 show W _ _ _ _ _ ⟨[(2,.ptr 0 0),(4,.ptr 1 0),(8,.mp 2 (dO ik nu (iq (L.map (·.1)) l))),(31,.d (.v (.int .i64 ((k:Nat):Int)))),(29,_),(30,_)],[(0,(sd ts ds sn).map A.d),(1,[.gi 3 (iT Ev.c l2 none),.any,.gi 4 (xI l none),.any])],[2,3,4],5⟩
 refine ba 1 rfl ?_
 refine ae (cB (l:=ps) (k:=k) rfl (by simp[Ex.bA,bk]) hk (fun p hx hd hlt=>?_) (fun he hd=>?_))
 ·
  have htk:ps.take (k+1)=ps.take k++[p]:=by rw[List.take_add_one,hx];rfl
  obtain⟨hp0,_⟩:=hpk p (List.mem_of_getElem? hx)
  have he0:0 < p.evs.length:=List.length_pos_iff.2 (gy hp0).2.2.2.1
  have htt:=AH hx
  obtain⟨x,L1,l1,jx,o,hAt⟩:=hP.JH p.thread
  obtain⟨rowsA,tA,seA,oC,vA,esA,l2A,iA,oA,hY,hN,Cx,hrl,hr4,hes,hnext⟩:=hAt.JD
  obtain⟨rX,hrX⟩:∃ rX,rX=o.map (fy l2):=⟨_,rfl⟩
  have hjx:l1[jx]? = some (x,rX):=by rw[hrX];exact hAt.hj
  have htl:(ps.take k).length≤8:=by rw[List.length_take];omega
  have hol:o.length≤8:=by
   have h1:=hAt.own _ o (List.mem_of_getElem? hAt.hL)
   have h2:=(kK p.thread (rfl:(ps.take k).length=(ps.take k).length)).1
   rw[←h1.1,List.length_map] at h2
   omega
  refine ah (qs (ae (W.block (ae (aa (pu (indexAddr aX rfl rfl rfl rfl rfl rfl (Int.natCast_nonneg _) (bN hx) rfl) rfl ?_))))))
  refine aZ 1 rfl ?_
  refine bK aX rfl rfl rfl (bl aX rfl rfl rfl rfl rfl rfl rfl rfl (ab (qs (ae (aa (aZ 3 rfl ?_))))))
  refine pu (jS (kf:=ik) (vf:=nu) (l:=iq (L.map (·.1)) l) (a:=p.thread) (z:=.v (.slice none 0 0)) (r:=.v x) aX rfl rfl rfl rfl rfl (eY (aX.eS rfl rfl)) rfl rfl rfl (fun _ _=>.v _ rfl) (by rw[sJ (by simp[hP.len])];exact hP.keys) hAt.get) rfl ?_
  refine pE rfl (ab (qs ?_))
  iterate 2 refine ae ?_
  refine JA 1 2 11 jx rfl rfl rfl rfl hAt.new hjx rfl rfl ?_
  apply bL;(case hb=>rfl)
  ·
   refine aZ 4 rfl ?_
   apply fI;(case hj=>rfl);(case hl=>rfl)
   ·
    intro g42
    iterate 3 refine bC rfl rfl rfl rfl ?_
    refine pE rfl (ab (cc rfl rfl rfl))
   intro g42
   refine bH rfl rfl (pE rfl (bH rfl rfl (pu (xk aX rfl rfl rfl rfl) rfl ?_)))
   refine bH rfl rfl (aZ 2 rfl ?_)
   refine ab (cc rfl rfl rfl)
  refine qs (W.oO [(2,.ptr 0 0),(4,.ptr 1 0),(8,.mp 3 (dO ik nu (iq (L.map (·.1)) l))),(10,.ptr 2 0),(11,.xs 6 (rowsA++[iO tA seA oC vA])),(31,.d (.v (.int .i64 ((k:Nat):Int))))] [29,30] [(0,(sd ts ds sn).map A.d),(1,[.gi 4 (iT Ev.c l2A none),.any,.gi 5 (xI l1 (some jx)),.any]),(2,p.c.map A.d)] [] [3,4,5,6] 7 ?_ ?_)
  ·
   refine be rfl (fun h46=>?_) (fun h46=>?_)
   ·
    have hb:0 < p.lost∨o=[]:=by
     rw[hrX] at h46
     by_cases q:0 < p.lost
     · exact .inl q
     refine .inr ?_
     simp[q] at h46
     exact h46
    obtain⟨rfl,rfl,rfl,rfl,rfl,rfl⟩:=hY hb
    subst hrX
    refine HB 1 0 rfl rfl rfl rfl ?_
    refine aa (aZ 7 rfl ?_)
    refine pu (build aX rfl rfl rfl rfl) rfl ?_
    refine pu (b9 aX rfl rfl rfl rfl rfl rfl rfl rfl rfl) rfl ?_
    refine xu (es2:=[iO p.thread p.serial p.lost iX]) (r:=o.map (fy l2)++[iO p.thread p.serial p.lost iX]) aX rfl rfl rfl rfl rfl rfl rfl rfl rfl rfl rfl (fun z hz=>by rcases List.mem_append.1 hz with hz | hz;exact sX _ _ z hz;simp at hz;subst hz;rfl) (by show((o.map (fy l2)).length+1)*48≤_;rw[List.length_map];omega) rfl ?_
    refine pE rfl (ab (eJ [0,1,5,2,3,6,8] rfl ?_ ⟨rfl,rfl,rfl,rfl,trivial⟩ ?_ trivial rfl))
    · repeat' first | exact trivial | refine⟨rfl,?_⟩
    repeat' first | exact trivial | refine⟨rfl,?_⟩
   have hb:¬ (0 < p.lost∨o=[]):=by
    rw[hrX] at h46
    rintro(q | q)
    · simp[q] at h46
    subst q;by_cases q:0 < p.lost <;> simp[q] at h46
   obtain⟨e1,e2⟩:=hN hb
   rw[e1] at hrX
   subst hrX
   subst e2
   refine ah (eJ [0,1,5,2,3,6,7] rfl ?_ ⟨rfl,rfl,rfl,rfl,trivial⟩ ?_ trivial rfl)
   · repeat' first | exact trivial | refine⟨rfl,?_⟩
   repeat' first | exact trivial | refine⟨rfl,?_⟩
  refine qs (W.EN aX (fun _=>True) (fun v':Value=>[(1,[.gi 9 (iT Ev.c (l2A.set iA (v',esA++p.evs)) none),.any,.gi 10 (xI l1 (some jx)),.any])]) [8,9,10,3] 11 63 (fun v'=>.xs 8 (rowsA++[iO tA seA oC v'])) 7 6 (by kernel_rfl) rfl rfl ?_)
  refine Ar (fun _ _=>ev aX rfl) (ev aX rfl) rfl rfl rfl rfl rfl rfl ?_
  refine Ar (fun _ _=>ev aX rfl) (ev aX rfl) rfl rfl rfl rfl rfl rfl ?_
  refine Ar (fun _ _=>ev aX rfl) (ev aX rfl) rfl rfl rfl rfl rfl rfl ?_
  refine Ff (ev aX rfl) rfl rfl rfl rfl rfl rfl ?_
  refine Ar (fun _ _=>ev aX rfl) (ev aX rfl) rfl rfl rfl rfl rfl rfl ?_
  refine Ff (ev aX rfl) rfl rfl rfl rfl rfl rfl ?_
  refine JM (fun g=>AG [1] [6,4,5] rfl rfl rfl rfl rfl (El tA seA oC rowsA vA esA p.evs l2A iA Cx (xI l1 (some jx)) he0 (by omega) (by omega) hr4) rfl rfl (by rfl) rfl (fun _=>rfl) (fun _=>rfl) rfl rfl fun v' _=>ab ⟨rfl,v',trivial,rfl⟩) rfl rfl rfl ?_
  refine CX.nil fun v' _=>?_
  refine IB 1 2 63 jx rfl rfl rfl rfl rfl rfl rfl rfl fun x'=>?_
  refine mW (kf:=ik) (vf:=nu) (l:=iq (L.map (·.1)) l) (a:=p.thread) (y:=.v x') aX 8 rfl rfl rfl rfl rfl rfl rfl (eY (aX.eS rfl rfl)) rfl rfl (by rw[sJ (by simp[hP.len])];exact hP.keys) (by rw[hAt.put x' (rowsA++[iO tA seA oC v']),←hAt.Ih oA]) rfl ?_
  refine ab (ca (qs (cQ 2 rfl ?_)))
  refine W.cr [0,1,12,9,11] ⟨(k+1,L1.set jx (p.thread,oA),l1.set jx (x',rowsA++[iO tA seA oC v']),l2A.set iA (v',esA++p.evs)),?_⟩ ?_ rfl ?_ ⟨rfl,rfl,rfl,rfl,trivial⟩ ?_ trivial rfl
  · exact⟨hlt,by rw[htk];exact hnext v' x'⟩
  · dsimp only;omega
  · repeat' first | exact trivial | refine⟨rfl,?_⟩ | refine⟨bJ (by assumption) (by assumption),?_⟩
  repeat' first | exact trivial | refine⟨rfl,?_⟩
 have hpl:ps.take k=ps:=List.take_of_length_le (by omega)
 rw[hpl] at hP
 refine an (bT (bR (bP (qs (ae (IE 1 2 0 8 (ks':=l8 L) rfl rfl rfl rfl rfl rfl rfl rfl rfl rfl (Gx hP.len) hP.done rfl ?_))))))
 refine aa (aZ 1 rfl ?_)
 refine pu (build aX rfl rfl rfl rfl) rfl ?_
 refine bK aX rfl rfl rfl (bl aX rfl rfl rfl rfl rfl rfl rfl rfl (ab (qs ?_)))
 iterate 2 refine ae ?_
 refine eZ 5 3 rfl rfl rfl ?_
 refine cQ 4 rfl ?_
 refine qs (W.block ?_)
 refine W.b7 (ι:={x:Nat×List bw // match x with | (k,m)=>k≤ts.length∧m=(ts.take k).flatMap fun t=>cp t.id ps})
  (fun x=>match x.1 with | (k,m)=>[(4,.ptr 0 0),(8,.mp 2 (dO ik nu (l8 L))),(12,.ptr 1 0),(70,.d (.v (.int .i64 ((k:Nat):Int))))]) [(68,_),(69,_)]
  (fun x=>match x.1 with | (k,m)=>[(0,[.any,.any,.any,.any]),(1,[.d (.sl (ts.map GT.c)),.d (.sl (ds.map dC)),.d (.sl (sn.map Sn.c)),.own 3 (m.map bw.c)])]) [] [2,3] 4 (fun x=>match x.1 with | (k,m)=>ts.length - k)
  [1,5,2,6] ⟨(0,[]),?_⟩ rfl ?_ ⟨rfl,rfl,rfl,rfl,trivial⟩ ?_ trivial rfl ?_
 · exact⟨Nat.zero_le _,rfl⟩
 · repeat' first | exact trivial | refine⟨rfl,?_⟩
 · repeat' first | exact trivial | refine⟨rfl,?_⟩
 rintro⟨⟨k,m⟩,hk,hM⟩
 show W _ _ _ _ _ ⟨[(4,.ptr 0 0),(8,.mp 2 (dO ik nu (l8 L))),(12,.ptr 1 0),(70,.d (.v (.int .i64 ((k:Nat):Int)))),(68,_),(69,_)],[(0,[.any,.any,.any,.any]),(1,[.d (.sl (ts.map GT.c)),.d (.sl (ds.map dC)),.d (.sl (sn.map Sn.c)),.own 3 (m.map bw.c)])],[2,3],4⟩
 refine ba 1 rfl ?_
 refine ae (cB (l:=ts) (k:=k) rfl (by simp[Ex.bA,bk]) hk (fun t hx hd hlt=>?_) (fun he hd=>?_))
 ·
  have hmn:m++cp t.id ps=(ts.take (k+1)).flatMap fun t=>cp t.id ps:=by rw[hM,List.take_add_one,hx,List.flatMap_append];simp
  have hq8:=(kK t.id (rfl:ps.length=ps.length)).1
  have hml:m.length≤512:=by rw[hM];exact BK ps h8 (by rw[List.length_take];omega)
  refine ah (qs (ae (W.block (ae (aa (pu (indexAddr aX rfl rfl rfl rfl rfl rfl (Int.natCast_nonneg _) (bN hx) rfl) rfl ?_))))))
  refine aZ 1 rfl ?_
  refine bK aX rfl rfl rfl (bl aX rfl rfl rfl rfl rfl rfl rfl rfl (ab (qs (aa (aZ 5 rfl ?_)))))
  refine pu (jS (kf:=ik) (vf:=nu) (l:=l8 L) (a:=t.id) (z:=.v (.slice none 0 0)) (r:=if cp t.id ps=[] then .v iX else .sl ((cp t.id ps).map bw.c)) aX rfl rfl rfl rfl rfl (eY (aX.eS rfl rfl)) rfl rfl rfl (fun _ _=>.v _ rfl) (by rw[DS];exact hP.keys) (hP.get t.id)) rfl ?_
  refine pT (l2:=cp t.id ps) (fn:=bw.c) aX rfl rfl (by by_cases q:cp t.id ps=[] <;> simp[q,ig,iX]) rfl rfl rfl rfl rfl rfl rfl (fun _=>rfl) (by show(m.length+(cp t.id ps).length)*48≤_;omega) ?_
  refine pE rfl (bl aX rfl rfl rfl rfl rfl rfl rfl rfl (ab (ca (qs (cQ 2 rfl ?_)))))
  refine W.cr [0,1,2,5] ⟨(k+1,m++cp t.id ps),?_⟩ ?_ rfl ?_ ⟨rfl,rfl,rfl,rfl,trivial⟩ ?_ trivial rfl
  · exact⟨hlt,hmn⟩
  · dsimp only;omega
  · repeat' first | exact trivial | refine⟨rfl,?_⟩ | refine⟨bJ (by assumption) (by assumption),?_⟩
  repeat' first | exact trivial | refine⟨rfl,?_⟩
 have hpm:m=ts.flatMap fun t=>cp t.id ps:=by rw[hM,List.take_of_length_le (by omega)]
 subst hpm
 refine an (bT (bR (bP (qs (ae (aa (aZ 1 rfl ?_)))))))
 refine bl aX rfl rfl rfl rfl rfl rfl rfl rfl (pE rfl (ab (qs (W.ret (QV.br aX trivial rfl ?_)))))
 rw[hg];rfl
theorem B7 (a b:List dc):bq Tryz.prog 44 [.d (.sl (a.map dc.c)),.d (.sl (b.map dc.c))] (.d (.v (.bool (decide (a=b))))) 0:=by
 refine bq.bZ (n:=26) (ts:=[4]) Tryz.func44 (by kernel_rfl) Z Tryz.ntmps44 Tryz.results44 Z Z fun C hC hG=>?_;refine ba 1 Z ?_;refine ae (ba 5 Z ?_);refine be Z (fun I=>?_) (fun I=>?_);·
  have J:decide (a=b)=false:=decide_eq_false (by rintro rfl;simp at I);refine ba 1 Z ?_;refine W.ret (bo (QF.br trivial Z ?_));rw[J];rfl
 have ai:a.length=b.length:=by simp at I;omega
 refine ah (qs (ae (ba 3 Z ?_)));refine W.block (W.len (t:=0) Z Z (fun hlen=>?_));try simp only[List.length_map,Ex.bA] at hlen
 refine W.b7 (ι:={x:Nat // match x with | k=>k≤a.length∧(a.drop k=b.drop k↔a=b)})
  (fun x=>match x.1 with | k=>[(13,.d (.v (.int .i64 ((k:Nat):Int))))]) [(0,_),(1,_),(12,_)]
  (fun x=>match x.1 with | k=>[]) [] [] 0 (fun x=>match x.1 with | k=>a.length - k)
  [] ⟨0,?_⟩ Z ?_ ⟨rfl,rfl,rfl,rfl,rfl,rfl,trivial⟩ ?_ trivial Z ?_
 ·exact⟨Nat.zero_le _,by simp⟩
 ·repeat' constructor
 ·repeat' exact trivial
 rintro⟨k,hk,M⟩;show W _ _ _ _ _ ⟨[(13,.d (.v (.int .i64 ((k:Nat):Int)))),(0,_),(1,_),(12,_)],[],[],0⟩;refine ba 1 Z ?_;refine ae (cB (l:=a) (k:=k) Z (by simp[Ex.bA,bk]) hk (fun x hx hd ad=>?_) (fun he hd=>?_));·
  obtain⟨y,hy⟩:∃ y,b[k]? = some y:=⟨b[k]'(by omega),by simp⟩;have N:b.drop k=y::b.drop (k+1):=by
   have X:k < b.length:=by omega
   have:=List.drop_eq_getElem_cons X;rw[this,(List.getElem?_eq_some_iff.1 hy).2]
  rw[hd,N] at M;refine ah (qs (ae (W.block (ba 2 Z ?_))));refine ae (W.fC aX (by kernel_rfl) ?_);iterate 2 refine bF (ev aX Z) Z ?_
  refine bF (indexAddr (l:=x.c) aX Z Z Z Z Z Z (Int.natCast_nonneg _) (bN hx) Z) Z ?_;refine bF (ev aX Z) Z ?_;iterate 2 refine bF (ev aX Z) Z ?_
  refine bF (indexAddr (l:=y.c) aX Z Z Z Z Z Z (Int.natCast_nonneg _) (bN hy) Z) Z ?_;refine bF (ev aX Z) Z ?_;refine bF (ev aX Z) Z ?_;refine aq ?_;refine qs (be Z (fun O=>?_) (fun O=>?_));·
   have U:x≠y:=by rintro rfl;simp at O
   have J:decide (a=b)=false:=decide_eq_false (fun q=>by have:=M.2 q;simp at this;exact U this.1);refine ba 1 Z ?_;refine W.ret (bz (bo (dI (bz (bo (QF.br trivial Z ?_))))));rw[J];rfl
  have U:x=y:=by
   have q:x.id=y.id∧x.name=y.name:=by simpa using O
   cases x;cases y;simp_all
  have hn:a.drop (k+1)=b.drop (k+1)↔a=b:=by rw[←M,U];simp
  refine ah (ca (qs (cQ 2 Z ?_)));refine W.cr [] ⟨k+1,?_⟩ ?_ Z ?_ ⟨rfl,rfl,rfl,rfl,rfl,rfl,trivial⟩ ?_ trivial Z;·exact⟨ad,hn⟩
  ·dsimp only;omega
  ·repeat' first | exact trivial | refine⟨bJ (by assumption) (by assumption),?_⟩
  repeat' exact trivial
 have N:b.drop k=[]:=List.drop_eq_nil_of_le (by have:=congrArg List.length hd;simp at this;omega);rw[hd,N] at M;have J:decide (a=b)=true:=decide_eq_true (M.1 Z);refine an (bT (bR (bP (qs (ba 1 Z ?_)))));refine W.ret (QF.br trivial Z ?_);rw[J];rfl
theorem wx (a b:List (Int×Int)):bq Tryz.prog 45 [.d (.sl (a.map dC)),.d (.sl (b.map dC))] (.d (.v (.bool (decide (a=b))))) 0:=by
 refine bq.bZ (n:=26) (ts:=[4]) Tryz.func45 (by kernel_rfl) Z Tryz.ntmps45 Tryz.results45 Z Z fun C hC hG=>?_;refine ba 1 Z ?_;refine ae (ba 5 Z ?_);refine be Z (fun I=>?_) (fun I=>?_);·
  have J:decide (a=b)=false:=decide_eq_false (by rintro rfl;simp at I);refine ba 1 Z ?_;refine W.ret (bo (QF.br trivial Z ?_));rw[J];rfl
 have ai:a.length=b.length:=by simp at I;omega
 refine ah (qs (ae (ba 3 Z ?_)));refine W.block (W.len (t:=0) Z Z (fun hlen=>?_));try simp only[List.length_map,Ex.bA] at hlen
 refine W.b7 (ι:={x:Nat // match x with | k=>k≤a.length∧(a.drop k=b.drop k↔a=b)})
  (fun x=>match x.1 with | k=>[(13,.d (.v (.int .i64 ((k:Nat):Int))))]) [(0,_),(1,_),(12,_)]
  (fun x=>match x.1 with | k=>[]) [] [] 0 (fun x=>match x.1 with | k=>a.length - k)
  [] ⟨0,?_⟩ Z ?_ ⟨rfl,rfl,rfl,rfl,rfl,rfl,trivial⟩ ?_ trivial Z ?_
 ·exact⟨Nat.zero_le _,by simp⟩
 ·repeat' constructor
 ·repeat' exact trivial
 rintro⟨k,hk,M⟩;show W _ _ _ _ _ ⟨[(13,.d (.v (.int .i64 ((k:Nat):Int)))),(0,_),(1,_),(12,_)],[],[],0⟩;refine ba 1 Z ?_;refine ae (cB (l:=a) (k:=k) Z (by simp[Ex.bA,bk]) hk (fun x hx hd ad=>?_) (fun he hd=>?_));·
  obtain⟨y,hy⟩:∃ y,b[k]? = some y:=⟨b[k]'(by omega),by simp⟩;have N:b.drop k=y::b.drop (k+1):=by
   have X:k < b.length:=by omega
   have:=List.drop_eq_getElem_cons X;rw[this,(List.getElem?_eq_some_iff.1 hy).2]
  rw[hd,N] at M;refine ah (qs (ae (W.block (ba 2 Z ?_))));refine ae (W.fC aX (by kernel_rfl) ?_);iterate 2 refine bF (ev aX Z) Z ?_
  refine bF (indexAddr (l:=dC x) aX Z Z Z Z Z Z (Int.natCast_nonneg _) (bN hx) Z) Z ?_;refine bF (ev aX Z) Z ?_;iterate 2 refine bF (ev aX Z) Z ?_
  refine bF (indexAddr (l:=dC y) aX Z Z Z Z Z Z (Int.natCast_nonneg _) (bN hy) Z) Z ?_;refine bF (ev aX Z) Z ?_;refine bF (ev aX Z) Z ?_;refine aq ?_;refine qs (be Z (fun O=>?_) (fun O=>?_));·
   have U:x≠y:=by rintro rfl;simp at O
   have J:decide (a=b)=false:=decide_eq_false (fun q=>by have:=M.2 q;simp at this;exact U this.1);refine ba 1 Z ?_;refine W.ret (bz (bo (dI (bz (bo (QF.br trivial Z ?_))))));rw[J];rfl
  have U:x=y:=by
   have q:x.1=y.1∧x.2=y.2:=by simpa [dC] using O
   exact Prod.ext q.1 q.2
  have hn:a.drop (k+1)=b.drop (k+1)↔a=b:=by rw[←M,U];simp
  refine ah (ca (qs (cQ 2 Z ?_)));refine W.cr [] ⟨k+1,?_⟩ ?_ Z ?_ ⟨rfl,rfl,rfl,rfl,rfl,rfl,trivial⟩ ?_ trivial Z;·exact⟨ad,hn⟩
  ·dsimp only;omega
  ·repeat' first | exact trivial | refine⟨bJ (by assumption) (by assumption),?_⟩
  repeat' exact trivial
 have N:b.drop k=[]:=List.drop_eq_nil_of_le (by have:=congrArg List.length hd;simp at this;omega);rw[hd,N] at M;have J:decide (a=b)=true:=decide_eq_true (M.1 Z);refine an (bT (bR (bP (qs (ba 1 Z ?_)))));refine W.ret (QF.br trivial Z ?_);rw[J];rfl
theorem C2:bq Tryz.prog 46 [.d (.sl []),.d (.sl [])] (.d (.v (.bool true))) 0:=by
 refine bq.bZ (n:=26) (ts:=[4]) Tryz.func46 (by kernel_rfl) Z Tryz.ntmps46 Tryz.results46 Z Z fun C hC O=>?_;refine ba 1 Z ?_;refine ae (ba 5 Z ?_);refine be Z (fun I=>?_) (fun I=>?_);·exfalso;simp at I
 refine ah (qs (ae (ba 3 Z ?_)));refine W.block ?_
 refine W.b7 (ι:={x:Nat // match x with | k=>k≤([]:List (List D)).length})
  (fun x=>match x.1 with | k=>[(13,.d (.v (.int .i64 ((k:Nat):Int))))]) [(0,_),(1,_),(12,_)]
  (fun x=>match x.1 with | k=>[]) [] [] 0 (fun x=>match x.1 with | k=>([]:List (List D)).length - k)
  [] ⟨0,?_⟩ Z ?_ ⟨rfl,rfl,rfl,rfl,rfl,rfl,trivial⟩ ?_ trivial Z ?_
 ·exact Nat.zero_le _
 ·repeat' constructor
 ·repeat' exact trivial
 rintro⟨k,J⟩;show W _ _ _ _ _ ⟨[(13,.d (.v (.int .i64 ((k:Nat):Int)))),(0,_),(1,_),(12,_)],[],[],0⟩;refine ba 1 Z ?_;refine ae (cB (l:=([]:List (List D))) (k:=k) Z (by simp[Ex.bA,bk]) J (fun d M hd N=>?_) (fun he hd=>?_));·exfalso;simp at M
 refine an (bT (bR (bP (qs (ba 1 Z ?_)))));refine W.ret (QF.br trivial Z ?_);rfl
theorem A9 (fid:Nat) (p:Ev→Ev→Bool) (hp:∀ x y:Ev,bq Tryz.prog fid [.ag (Ev.c x),.ag (Ev.c y)] (.d (.v (.bool (p x y)))) 0) (l m:List Ev) :
 bq Tryz.prog 93 [.d (.sl (l.map Ev.c)),.d (.sl (m.map Ev.c)),.clo fid []] (.d (.v (.bool (fL p l m)))) 0:=by
 refine bq.bZ (n:=32) (ts:=[6]) Tryz.func93 (by kernel_rfl) Z Tryz.ntmps93 Tryz.results93 Z Z fun C hC hG=>?_;refine ba 1 Z ?_;refine ae (ba 5 Z ?_);refine be Z (fun J=>?_) (fun J=>?_);·
  have M:fL p l m=false:=by
   cases he:fL p l m with
   | false=>rfl
   | true=>have:=sY he;simp at J;omega
  refine ba 1 Z ?_;refine W.ret (bo (QF.br trivial Z ?_));rw[M];rfl
 have hl:l.length=m.length:=by simp at J;omega
 refine ah (qs (ae (ba 3 Z ?_)));refine W.block (W.len (t:=0) Z Z (fun hlen=>?_));try simp only[List.length_map,Ex.bA] at hlen
 refine W.b7 (ι:={x:Nat // match x with | k=>k≤l.length∧fL p (l.drop k) (m.drop k)=fL p l m})
  (fun x=>match x.1 with | k=>[(17,.d (.v (.int .i64 ((k:Nat):Int))))]) [(1,_),(2,_),(15,_),(16,_)]
  (fun x=>match x.1 with | k=>[]) [] [] 0 (fun x=>match x.1 with | k=>l.length - k)
  [] ⟨0,?_⟩ Z ?_ ⟨rfl,rfl,rfl,rfl,rfl,rfl,rfl,rfl,trivial⟩ ?_ trivial Z ?_
 ·exact⟨Nat.zero_le _,by simp⟩
 ·repeat' constructor
 ·repeat' exact trivial
 rintro⟨k,hk,I⟩;show W _ _ _ _ _ ⟨[(17,.d (.v (.int .i64 ((k:Nat):Int)))),(1,_),(2,_),(15,_),(16,_)],[],[],0⟩;refine ba 1 Z ?_;refine ae (cB (l:=l) (k:=k) Z (by simp[Ex.bA,bk]) hk (fun x hx hd U=>?_) (fun he hd=>?_));·
  obtain⟨y,hy,X⟩:=yb (l:=m) (k:=k) (by omega);rw[hd,X] at I;simp only[fL] at I;have ad:=hp x y;refine ah (qs (ae (W.block (ae (aa (pE Z (pu (indexAddr (l:=Ev.c x) aX Z Z Z Z Z Z (Int.natCast_nonneg _) (bN hx) Z) Z ?_)))))));refine aZ 1 Z ?_;refine bK aX Z Z Z (pE Z (bl aX Z Z Z Z Z Z Z Z (ab (qs (ae (aa (aZ 2 Z ?_)))))));refine pu (indexAddr (l:=Ev.c y) aX Z Z Z Z Z Z (Int.natCast_nonneg _) (bN hy) Z) Z ?_;refine aZ 1 Z ?_;refine bK aX Z Z Z (bl aX Z Z Z Z Z Z Z Z (ab (qs (ae (aa (aZ 3 Z ?_))))));refine pu (bm Z Z Z ad Z) Z ?_;refine pE Z (ab (qs (be Z (fun N=>?_) (fun N=>?_))));·
   have O:p x y=false:=by simpa using N
   have M:fL p l m=false:=by rw[←I,O];rfl
   refine ba 1 Z ?_;refine W.ret (bz (bo (dI (bz (bo (QF.br trivial Z ?_))))));rw[M];rfl
  have O:p x y=true:=by simpa using N
  rw[O,Bool.true_and] at I;refine ah (ca (qs (cQ 2 Z ?_)));refine W.cr [] ⟨k+1,?_⟩ ?_ Z ?_ ⟨rfl,rfl,rfl,rfl,rfl,rfl,rfl,rfl,trivial⟩ ?_ trivial Z;·exact⟨U,I⟩
  ·dsimp only;omega
  ·repeat' first | exact trivial | refine⟨bJ (by assumption) (by assumption),?_⟩
  repeat' exact trivial
 rw[hd,dropEnd (l:=m) (by omega)] at I;have M:fL p l m=true:=I.symm;refine an (bT (bR (bP (qs (ba 1 Z ?_)))));refine W.ret (QF.br trivial Z ?_);rw[M];rfl
theorem uf (fid:Nat) (p:bw→bw→Bool) (hp:∀ x y:bw,bq Tryz.prog fid [.ag (bw.c x),.ag (bw.c y)] (.d (.v (.bool (p x y)))) 0) (l m:List bw) :
 bq Tryz.prog 47 [.d (.sl (l.map bw.c)),.d (.sl (m.map bw.c)),.clo fid []] (.d (.v (.bool (fL p l m)))) 0:=by
 refine bq.bZ (n:=32) (ts:=[6]) Tryz.func47 (by kernel_rfl) Z Tryz.ntmps47 Tryz.results47 Z Z fun C hC hG=>?_;refine ba 1 Z ?_;refine ae (ba 5 Z ?_);refine be Z (fun J=>?_) (fun J=>?_);·
  have M:fL p l m=false:=by
   cases he:fL p l m with
   | false=>rfl
   | true=>have:=sY he;simp at J;omega
  refine ba 1 Z ?_;refine W.ret (bo (QF.br trivial Z ?_));rw[M];rfl
 have hl:l.length=m.length:=by simp at J;omega
 refine ah (qs (ae (ba 3 Z ?_)));refine W.block (W.len (t:=0) Z Z (fun hlen=>?_));try simp only[List.length_map,Ex.bA] at hlen
 refine W.b7 (ι:={x:Nat // match x with | k=>k≤l.length∧fL p (l.drop k) (m.drop k)=fL p l m})
  (fun x=>match x.1 with | k=>[(17,.d (.v (.int .i64 ((k:Nat):Int))))]) [(1,_),(2,_),(15,_),(16,_)]
  (fun x=>match x.1 with | k=>[]) [] [] 0 (fun x=>match x.1 with | k=>l.length - k)
  [] ⟨0,?_⟩ Z ?_ ⟨rfl,rfl,rfl,rfl,rfl,rfl,rfl,rfl,trivial⟩ ?_ trivial Z ?_
 ·exact⟨Nat.zero_le _,by simp⟩
 ·repeat' constructor
 ·repeat' exact trivial
 rintro⟨k,hk,I⟩;show W _ _ _ _ _ ⟨[(17,.d (.v (.int .i64 ((k:Nat):Int)))),(1,_),(2,_),(15,_),(16,_)],[],[],0⟩;refine ba 1 Z ?_;refine ae (cB (l:=l) (k:=k) Z (by simp[Ex.bA,bk]) hk (fun x hx hd U=>?_) (fun he hd=>?_));·
  obtain⟨y,hy,X⟩:=yb (l:=m) (k:=k) (by omega);rw[hd,X] at I;simp only[fL] at I;have ad:=hp x y;refine ah (qs (ae (W.block (ae (aa (pE Z (pu (indexAddr (l:=bw.c x) aX Z Z Z Z Z Z (Int.natCast_nonneg _) (bN hx) Z) Z ?_)))))));refine aZ 1 Z ?_;refine bK aX Z Z Z (pE Z (bl aX Z Z Z Z Z Z Z Z (ab (qs (ae (aa (aZ 2 Z ?_)))))));refine pu (indexAddr (l:=bw.c y) aX Z Z Z Z Z Z (Int.natCast_nonneg _) (bN hy) Z) Z ?_;refine aZ 1 Z ?_;refine bK aX Z Z Z (bl aX Z Z Z Z Z Z Z Z (ab (qs (ae (aa (aZ 3 Z ?_))))));refine pu (bm Z Z Z ad Z) Z ?_;refine pE Z (ab (qs (be Z (fun N=>?_) (fun N=>?_))));·
   have O:p x y=false:=by simpa using N
   have M:fL p l m=false:=by rw[←I,O];rfl
   refine ba 1 Z ?_;refine W.ret (bz (bo (dI (bz (bo (QF.br trivial Z ?_))))));rw[M];rfl
  have O:p x y=true:=by simpa using N
  rw[O,Bool.true_and] at I;refine ah (ca (qs (cQ 2 Z ?_)));refine W.cr [] ⟨k+1,?_⟩ ?_ Z ?_ ⟨rfl,rfl,rfl,rfl,rfl,rfl,rfl,rfl,trivial⟩ ?_ trivial Z;·exact⟨U,I⟩
  ·dsimp only;omega
  ·repeat' first | exact trivial | refine⟨bJ (by assumption) (by assumption),?_⟩
  repeat' exact trivial
 rw[hd,dropEnd (l:=m) (by omega)] at I;have M:fL p l m=true:=I.symm;refine an (bT (bR (bP (qs (ba 1 Z ?_)))));refine W.ret (QF.br trivial Z ?_);rw[M];rfl
theorem Em (p q:bw):bq Tryz.prog 49 [.ag p.c,.ag q.c] (.d (.v (.bool (kM p q)))) 0:=by
 refine bq.bZ (n:=31) (ts:=[4]) Tryz.func49 (by kernel_rfl) Z Tryz.ntmps49 Tryz.results49 Z Z fun C hC I=>?_;refine ae (aa (cG Z Z Z (cG Z Z Z (pE Z (ab (qs (ae ?_)))))));apply bL;(case hb=>rfl);·repeat' first | refine cc Z Z Z | refine bH Z Z ?_ | refine bC Z Z Z Z ?_ | refine pE Z ?_ | refine pu (bm Z Z Z (A9 94 wP Gt p.evs q.evs) Z) Z ?_ | refine ab ?_ | (apply b8;(case hj=>rfl);(case hl=>rfl))
 refine qs (W.ret (QF.br trivial Z ?_));simp only[norm,bW,kM];cases decide (p.thread=q.thread) <;> cases decide (p.serial=q.serial) <;> cases decide (p.lost=q.lost) <;> rfl
theorem vT (p q:bw):bq Tryz.prog 48 [.ag p.c,.ag q.c] (.d (.v (.bool (kM p q)))) 0:=by refine bq.bZ (n:=8) (ts:=[4]) Tryz.func48 (by kernel_rfl) Z Tryz.ntmps48 Tryz.results48 Z Z fun C hC I=>?_;refine ae (aa (cG Z Z Z (cG Z Z Z (pE Z (ab (qs (ae (aa (aZ 2 Z ?_)))))))));refine pu (bm Z Z Z (Em p q) Z) Z ?_;refine pE Z (ab (qs (W.ret (QF.br trivial Z ?_))));rfl
theorem Ep (a b:jJ):bq Tryz.prog 17 [.ag a.c,.ag b.c] (.d (.v (.bool (qM a b)))) 0:=by
 refine bq.bZ (n:=37) (ts:=[4]) Tryz.func17 (by kernel_rfl) Z Tryz.ntmps17 Tryz.results17 Z Z fun C hC I=>?_;refine ae (aa (cG Z Z Z (cG Z Z Z (pE Z (ab (qs (ae (W.rG aX 7 2 (by kernel_rfl) Z Z ?_))))))));refine gD Z (ev aX Z) Z ?_;refine gD Z (ev aX Z) Z ?_;refine gD Z (ev aX Z) Z ?_;refine gD Z (ev aX Z) Z ?_;refine rA 0 Z Z Z Z Z Z ?_;refine rA 1 Z Z Z Z Z Z ?_;refine zI 4 0 Z Z Z Z Z Z Z Z Z Z Z Z ?_;refine aD ?_;refine bl aX Z Z Z Z Z Z Z Z (ab (qs (ae ?_)));apply bL;(case hb=>rfl);·repeat' first | refine cc Z Z Z | refine bH Z Z ?_ | refine bC Z Z Z Z ?_ | refine pE Z ?_ | refine pu (bm Z Z Z (B7 a.ts b.ts) Z) Z ?_ | refine pu (bm Z Z Z (wx a.ds b.ds) Z) Z ?_ | refine pu (bm Z Z Z C2 Z) Z ?_ | refine pu (bm Z Z Z (uf 48 kM vT a.ps b.ps) Z) Z ?_ | refine ab ?_ | (apply b8;(case hj=>rfl);(case hl=>rfl))
 refine qs (W.ret (QF.br trivial Z ?_));simp only[norm,bW,qM];cases decide (a.ts=b.ts) <;> cases decide (a.ds=b.ds) <;> rfl
theorem CB (a b:List GT):bq Tryz.prog 44 [.d (.sl (a.map GT.c)),.d (.sl (b.map GT.c))] (.d (.v (.bool (decide (a=b))))) 0:=by
 refine bq.bZ (n:=26) (ts:=[4]) Tryz.func44 (by kernel_rfl) Z Tryz.ntmps44 Tryz.results44 Z Z fun C hC hG=>?_;refine ba 1 Z ?_;refine ae (ba 5 Z ?_);refine be Z (fun I=>?_) (fun I=>?_);·
  have J:decide (a=b)=false:=decide_eq_false (by rintro rfl;simp at I);refine ba 1 Z ?_;refine W.ret (bo (QF.br trivial Z ?_));rw[J];rfl
 have ad:a.length=b.length:=by simp at I;omega
 refine ah (qs (ae (ba 3 Z ?_)));refine W.block (W.len (t:=0) Z Z (fun hlen=>?_));try simp only[List.length_map,Ex.bA] at hlen
 refine W.b7 (ι:={x:Nat // match x with | k=>k≤a.length∧(a.drop k=b.drop k↔a=b)})
  (fun x=>match x.1 with | k=>[(13,.d (.v (.int .i64 ((k:Nat):Int))))]) [(0,_),(1,_),(12,_)]
  (fun x=>match x.1 with | k=>[]) [] [] 0 (fun x=>match x.1 with | k=>a.length - k)
  [] ⟨0,?_⟩ Z ?_ ⟨rfl,rfl,rfl,rfl,rfl,rfl,trivial⟩ ?_ trivial Z ?_
 ·exact⟨Nat.zero_le _,by simp⟩
 ·repeat' constructor
 ·repeat' exact trivial
 rintro⟨k,hk,M⟩;show W _ _ _ _ _ ⟨[(13,.d (.v (.int .i64 ((k:Nat):Int)))),(0,_),(1,_),(12,_)],[],[],0⟩;refine ba 1 Z ?_;refine ae (cB (l:=a) (k:=k) Z (by simp[Ex.bA,bk]) hk (fun x hx hd X=>?_) (fun he hd=>?_));·
  obtain⟨y,hy,N⟩:=yb (l:=b) (k:=k) (by omega);rw[hd,N] at M;refine ah (qs (ae (W.block (ba 2 Z ?_))));refine ae (W.fC aX (by kernel_rfl) ?_);iterate 2 refine bF (ev aX Z) Z ?_
  refine bF (indexAddr (l:=x.c) aX Z Z Z Z Z Z (Int.natCast_nonneg _) (bN hx) Z) Z ?_;refine bF (ev aX Z) Z ?_;iterate 2 refine bF (ev aX Z) Z ?_
  refine bF (indexAddr (l:=y.c) aX Z Z Z Z Z Z (Int.natCast_nonneg _) (bN hy) Z) Z ?_;refine bF (ev aX Z) Z ?_;refine bF (ev aX Z) Z ?_;refine aq ?_;refine qs (be Z (fun O=>?_) (fun O=>?_));·
   have U:x≠y:=by rintro rfl;simp at O
   have J:decide (a=b)=false:=decide_eq_false (fun q=>by have:=M.2 q;simp at this;exact U this.1);refine ba 1 Z ?_;refine W.ret (bz (bo (dI (bz (bo (QF.br trivial Z ?_))))));rw[J];rfl
  have U:x=y:=by
   have q:x.id=y.id∧x.name=y.name∧x.dom=y.dom:=by simpa using O
   cases x;cases y;simp_all
  have hn:a.drop (k+1)=b.drop (k+1)↔a=b:=by rw[←M,U];simp
  refine ah (ca (qs (cQ 2 Z ?_)));refine W.cr [] ⟨k+1,?_⟩ ?_ Z ?_ ⟨rfl,rfl,rfl,rfl,rfl,rfl,trivial⟩ ?_ trivial Z;·exact⟨X,hn⟩
  ·dsimp only;omega
  ·repeat' first | exact trivial | refine⟨bJ (by assumption) (by assumption),?_⟩
  repeat' exact trivial
 have N:b.drop k=[]:=List.drop_eq_nil_of_le (by have:=congrArg List.length hd;simp at this;omega);rw[hd,N] at M;have J:decide (a=b)=true:=decide_eq_true (M.1 Z);refine an (bT (bR (bP (qs (ba 1 Z ?_)))));refine W.ret (QF.br trivial Z ?_);rw[J];rfl
theorem Ct (a b:List Sn):bq Tryz.prog 46 [.d (.sl (a.map Sn.c)),.d (.sl (b.map Sn.c))] (.d (.v (.bool (decide (a=b))))) 0:=by
 refine bq.bZ (n:=26) (ts:=[4]) Tryz.func46 (by kernel_rfl) Z Tryz.ntmps46 Tryz.results46 Z Z fun C hC hG=>?_;refine ba 1 Z ?_;refine ae (ba 5 Z ?_);refine be Z (fun I=>?_) (fun I=>?_);·
  have J:decide (a=b)=false:=decide_eq_false (by rintro rfl;simp at I);refine ba 1 Z ?_;refine W.ret (bo (QF.br trivial Z ?_));rw[J];rfl
 have ad:a.length=b.length:=by simp at I;omega
 refine ah (qs (ae (ba 3 Z ?_)));refine W.block (W.len (t:=0) Z Z (fun hlen=>?_));try simp only[List.length_map,Ex.bA] at hlen
 refine W.b7 (ι:={x:Nat // match x with | k=>k≤a.length∧(a.drop k=b.drop k↔a=b)})
  (fun x=>match x.1 with | k=>[(13,.d (.v (.int .i64 ((k:Nat):Int))))]) [(0,_),(1,_),(12,_)]
  (fun x=>match x.1 with | k=>[]) [] [] 0 (fun x=>match x.1 with | k=>a.length - k)
  [] ⟨0,?_⟩ Z ?_ ⟨rfl,rfl,rfl,rfl,rfl,rfl,trivial⟩ ?_ trivial Z ?_
 ·exact⟨Nat.zero_le _,by simp⟩
 ·repeat' constructor
 ·repeat' exact trivial
 rintro⟨k,hk,M⟩;show W _ _ _ _ _ ⟨[(13,.d (.v (.int .i64 ((k:Nat):Int)))),(0,_),(1,_),(12,_)],[],[],0⟩;refine ba 1 Z ?_;refine ae (cB (l:=a) (k:=k) Z (by simp[Ex.bA,bk]) hk (fun x hx hd X=>?_) (fun he hd=>?_));·
  obtain⟨y,hy,N⟩:=yb (l:=b) (k:=k) (by omega);rw[hd,N] at M;refine ah (qs (ae (W.block (ba 2 Z ?_))));refine ae (W.fC aX (by kernel_rfl) ?_);iterate 2 refine bF (ev aX Z) Z ?_
  refine bF (indexAddr (l:=x.c) aX Z Z Z Z Z Z (Int.natCast_nonneg _) (bN hx) Z) Z ?_;refine bF (ev aX Z) Z ?_;iterate 2 refine bF (ev aX Z) Z ?_
  refine bF (indexAddr (l:=y.c) aX Z Z Z Z Z Z (Int.natCast_nonneg _) (bN hy) Z) Z ?_;refine bF (ev aX Z) Z ?_;refine bF (ev aX Z) Z ?_;refine aq ?_;refine qs (be Z (fun O=>?_) (fun O=>?_));·
   have U:x≠y:=by rintro rfl;simp at O
   have J:decide (a=b)=false:=decide_eq_false (fun q=>by have:=M.2 q;simp at this;exact U this.1);refine ba 1 Z ?_;refine W.ret (bz (bo (dI (bz (bo (QF.br trivial Z ?_))))));rw[J];rfl
  have U:x=y:=by
   have q:x.a=y.a∧x.ata=y.ata∧x.b=y.b∧x.lo=y.lo∧x.hi=y.hi:=by simpa using O
   cases x;cases y;simp_all
  have hn:a.drop (k+1)=b.drop (k+1)↔a=b:=by rw[←M,U];simp
  refine ah (ca (qs (cQ 2 Z ?_)));refine W.cr [] ⟨k+1,?_⟩ ?_ Z ?_ ⟨rfl,rfl,rfl,rfl,rfl,rfl,trivial⟩ ?_ trivial Z;·exact⟨X,hn⟩
  ·dsimp only;omega
  ·repeat' first | exact trivial | refine⟨bJ (by assumption) (by assumption),?_⟩
  repeat' exact trivial
 have N:b.drop k=[]:=List.drop_eq_nil_of_le (by have:=congrArg List.length hd;simp at this;omega);rw[hd,N] at M;have J:decide (a=b)=true:=decide_eq_true (M.1 Z);refine an (bT (bR (bP (qs (ba 1 Z ?_)))));refine W.ret (QF.br trivial Z ?_);rw[J];rfl
theorem ED (a b:fb):bq Tryz.prog 17 [.ag a.c,.ag b.c] (.d (.v (.bool (pc a b)))) 0:=by
 refine bq.bZ (n:=37) (ts:=[4]) Tryz.func17 (by kernel_rfl) Z Tryz.ntmps17 Tryz.results17 Z Z fun C hC I=>?_;refine ae (aa (cG Z Z Z (cG Z Z Z (pE Z (ab (qs (ae (W.rG aX 7 2 (by kernel_rfl) Z Z ?_))))))));refine gD Z (ev aX Z) Z ?_;refine gD Z (ev aX Z) Z ?_;refine gD Z (ev aX Z) Z ?_;refine gD Z (ev aX Z) Z ?_;refine rA 0 Z Z Z Z Z Z ?_;refine rA 1 Z Z Z Z Z Z ?_;refine zI 4 0 Z Z Z Z Z Z Z Z Z Z Z Z ?_;refine aD ?_;refine bl aX Z Z Z Z Z Z Z Z (ab (qs (ae ?_)));apply bL;(case hb=>rfl);·repeat' first | refine cc Z Z Z | refine bH Z Z ?_ | refine bC Z Z Z Z ?_ | refine pE Z ?_ | refine pu (bm Z Z Z (CB a.ts b.ts) Z) Z ?_ | refine pu (bm Z Z Z (wx a.ds b.ds) Z) Z ?_ | refine pu (bm Z Z Z (Ct a.sn b.sn) Z) Z ?_ | refine pu (bm Z Z Z (uf 48 kM vT a.ps b.ps) Z) Z ?_ | refine ab ?_ | (apply b8;(case hj=>rfl);(case hl=>rfl))
 refine qs (W.ret (QF.br trivial Z ?_));simp only[norm,bW,pc];cases decide (a.ts=b.ts) <;> cases decide (a.ds=b.ds) <;> cases decide (a.sn=b.sn) <;> rfl
theorem uc (l:fb) (M:l.ps.length≤8) (N:(∀ p∈l.ps,dT p=0)→total l.ps≤1000):bq Tryz.prog 12 [.ag l.c] (.d (ci (ja l))) 0:=by
 refine bq.bZ (n:=22) (ts:=[2]) Tryz.func12 (by kernel_rfl) Z Tryz.ntmps12 Tryz.results12 Z Z fun C hC O=>?_;refine ae (aa (cG Z Z Z (pE Z (ab (qs (ae (aa (aZ 4 Z ?_))))))));refine pu (bm Z Z Z (Gb l.ts l.ds l.sn l.ps M N) Z) Z ?_;refine aZ 3 Z ?_;refine bK aX Z Z Z (bl aX Z Z Z Z Z Z Z Z (pE Z (ab (qs ?_))));iterate 2 refine ae ?_
 apply bL;(case hb=>rfl);·
  refine aZ 3 Z ?_;apply fI;(case hj=>rfl);(case hl=>rfl);·
   intro g15;refine bH Z Z (aZ 1 Z ?_);refine bH Z Z (aZ 1 Z ?_);refine bH Z Z (pu (bm Z Z Z (ED (gX l.ts l.ds l.sn l.ps).1 l) Z) Z ?_);refine bH Z Z (aZ 2 Z ?_);refine ab (cc Z Z Z)
  intro g15;iterate 4 refine bC Z Z Z Z ?_
  refine pE Z (ab (cc Z Z Z))
 refine qs (be Z (fun I=>?_) (fun I=>?_));·
  have J:ja l=10:=by
   unfold ja;by_cases q:(gX l.ts l.ds l.sn l.ps).2=0;·rw[if_pos ⟨q,by simpa [q] using I⟩]
   simp[q] at I
  refine ba 1 Z ?_;refine W.ret (bo (QF.br trivial Z ?_));rw[J];rfl
 have J:ja l=(gX l.ts l.ds l.sn l.ps).2:=by unfold ja;rw[if_neg];rintro⟨q1,q2⟩;simp[q1,q2] at I
 refine ah (qs (ba 2 Z ?_));refine W.ret (QF.br trivial Z ?_);rw[J];rfl
theorem CK {l:fb} (h:ja l=0):∀ p∈l.ps,dT p=0∧p.thread∈l.ts.map GT.id:=by
 unfold ja at h;split at h;·cases h
 unfold gX at h;split at h;·rename_i q;exact absurd h q
 split at h;·rename_i q;exact absurd h q
 rename_i q;exact oH (by simpa using q)
theorem DD (l:fb) (h8:l.ps.length≤8) (hF:(∀ p∈l.ps,dT p=0)→total l.ps≤1000):bq Tryz.prog 13 [.ag l.c] (.d (.sl ((pF l).map AE))) 0:=by
 have hlen0:l.ps.length≤maxLen:=by simp only[maxLen];omega
 refine bq.bZ (n:=34) (ts:=[2]) Tryz.func13 (by kernel_rfl) rfl Tryz.ntmps13 Tryz.results13 rfl rfl fun C hC hG=>?_
 refine ae (aa (cG rfl rfl rfl (pE rfl (ab (qs ?_)))))
 iterate 2 refine ae ?_
 refine aa (aZ 1 rfl ?_)
 refine pu (bm rfl rfl rfl (uc l h8 hF) rfl) rfl ?_
 refine pE rfl (ab (qs (be rfl (fun h8=>?_) (fun h8=>?_))))
 ·
  have hg:pF l=[]:=by unfold pF;rw[if_pos (by simpa using h8)]
  refine ba 1 rfl ?_
  try refine mz (d:=2) rfl rfl ?_
  refine W.ret (bo (QF.br trivial rfl ?_))
  rw[hg];rfl
 have hc:ja l=0:=by simpa using h8
 have hg:pF l=gY l.ps:=by unfold pF;rw[if_neg (by simp[hc])]
 have hpk:=CK hc
 refine ah (qs (ba 1 rfl ?_))
 refine ae (ba 4 rfl ?_)
 refine W.block (mz (d:=3) rfl rfl ?_)
 refine W.len (t:=10) rfl rfl (fun hlen=>?_)
 try simp only[List.length_map,Ex.bA] at hlen
 refine W.b7 (ι:={x:Nat×List (Int×Int×Int) // match x with | (k,acc)=>k≤l.ps.length∧acc=gY (l.ps.take k)∧acc.length≤k})
  (fun x=>match x.1 with | (k,acc)=>[(3,.own 0 (acc.map AE)),(12,.d (.v (.int .i64 ((k:Nat):Int))))]) [(10,_),(11,_)]
  (fun x=>match x.1 with | (k,acc)=>[]) [] [0] 1 (fun x=>match x.1 with | (k,acc)=>l.ps.length - k)
  [1] ⟨(0,[]),?_⟩ rfl ?_ ⟨rfl,rfl,rfl,rfl,trivial⟩ ?_ trivial rfl ?_
 · exact⟨Nat.zero_le _,rfl,Nat.le_refl _⟩
 · repeat' first | exact trivial | refine⟨rfl,?_⟩
 · repeat' exact trivial
 rintro⟨⟨k,acc⟩,hk,hA,hal⟩
 show W _ _ _ _ _ ⟨[(3,.own 0 (acc.map AE)),(12,.d (.v (.int .i64 ((k:Nat):Int)))),(10,_),(11,_)],[],[0],1⟩
 refine ba 1 rfl ?_
 refine ae (cB (l:=l.ps) (k:=k) rfl (by simp[Ex.bA,bk]) hk (fun p hx hd hlt=>?_) (fun he hd=>?_))
 ·
  have htk:l.ps.take (k+1)=l.ps.take k++[p]:=by rw[List.take_add_one,hx];rfl
  obtain⟨hp0,_⟩:=hpk p (List.mem_of_getElem? hx)
  obtain⟨_,q2,q3,_⟩:=gy hp0
  have hsn:=Aq (l.ps.take k) p
  rw[←htk,←hA] at hsn
  refine ah (qs (ae (W.block (ae (aa (pu (indexAddr (l:=p.c) aX rfl rfl rfl rfl rfl rfl (Int.natCast_nonneg _) (bN hx) rfl) rfl ?_))))))
  refine aZ 1 rfl ?_
  refine bK aX rfl rfl rfl (bl aX rfl rfl rfl rfl rfl rfl rfl rfl (ab (qs (ba 3 rfl ?_))))
  refine be rfl (fun h18=>?_) (fun h18=>?_)
  ·
   have hl0:0 < p.lost:=of_decide_eq_true h18
   rw[if_pos hl0] at hsn
   refine aa (aZ 7 rfl ?_)
   refine pu (dP (ev aX rfl) (y:=p.serial - p.lost) (wrap64 (by omega))) rfl ?_
   refine aZ 2 rfl ?_
   refine pu (build aX rfl rfl rfl rfl) rfl ?_
   refine pu (b9 aX rfl rfl rfl rfl rfl rfl rfl rfl rfl) rfl ?_
   refine fD (fn:=AE) (l:=acc) (a:=(p.thread,p.serial - p.lost,p.lost)) aX rfl rfl rfl rfl rfl rfl rfl rfl rfl rfl (fun _=>rfl) (by show(acc.length+1)*24≤_;omega) ?_
   refine pE rfl (ab (ca (qs (cQ 2 rfl ?_))))
   refine W.cr [2] ⟨(k+1,acc++[(p.thread,p.serial - p.lost,p.lost)]),?_⟩ ?_ rfl ?_ ⟨rfl,rfl,rfl,rfl,trivial⟩ ?_ trivial rfl
   · exact⟨hlt,by rw[hsn],by first | (simp;omega) | omega⟩
   · dsimp only;omega
   · repeat' first | exact trivial | refine⟨rfl,?_⟩ | refine⟨bJ (by assumption) (by assumption),?_⟩
   repeat' exact trivial
  have hl0:¬ 0 < p.lost:=of_decide_eq_false h18
  rw[if_neg hl0] at hsn
  refine ah (ca (qs (cQ 2 rfl ?_)))
  refine W.cr [0] ⟨(k+1,acc),?_⟩ ?_ rfl ?_ ⟨rfl,rfl,rfl,rfl,trivial⟩ ?_ trivial rfl
  · exact⟨hlt,by rw[hsn],by first | (simp;omega) | omega⟩
  · dsimp only;omega
  · repeat' first | exact trivial | refine⟨rfl,?_⟩ | refine⟨bJ (by assumption) (by assumption),?_⟩
  repeat' exact trivial
 have hm:acc=gY l.ps:=by rw[hA,List.take_of_length_le (by omega)]
 subst hm
 refine an (bT (bR (bP (qs (ba 2 rfl ?_)))))
 try refine mz (d:=2) rfl rfl ?_
 refine W.ret (QF.br trivial rfl ?_)
 rw[hg];rfl
def l6 (l:fb):Int:=if ja l≠0 then ja l else if 1 < l.ds.length∨0 < l.sn.length then 12 else 1
theorem oY (l:fb) (U:l.ps.length≤8) (X:(∀ p∈l.ps,dT p=0)→total l.ps≤1000) (O:ja l≠0∨(1 < l.ds.length∨0 < l.sn.length)∨gY l.ps≠[]):bq Tryz.prog 15 [.ag l.c] (.tup [.d (cs cC),.d (ci (l6 l))]) 0:=by
 refine bq.bZ (n:=97) (ts:=[2,3]) Tryz.func15 (by kernel_rfl) Z Tryz.ntmps15 Tryz.results15 Z Z fun C hC hG=>?_;refine ae (aa (cG Z Z Z (aZ 2 Z ?_)));refine ab (qs ?_);iterate 2 refine ae ?_
 refine aa (aZ 1 Z ?_);refine pu (bm Z Z Z (uc l U X) Z) Z ?_;refine pE Z (ab (qs (ba 2 Z ?_)));refine be Z (fun M=>?_) (fun M=>?_);·
  have N:l6 l=ja l:=by unfold l6;rw[if_pos (by simpa using M)]
  refine ba 3 Z ?_;refine W.ret (bo (QF.br trivial Z ?_));rw[N];rfl
 have h0:ja l=0:=by simpa using M
 refine ah (qs ?_);iterate 2 refine ae ?_
 apply bL;(case hb=>rfl);·
  refine aZ 6 Z ?_;apply fI;(case hj=>rfl);(case hl=>rfl);·
   intro g24;iterate 5 refine bC Z Z Z Z ?_
   refine pE Z (ab (cc Z Z Z))
  intro g24;refine bH Z Z (pE Z (bH Z Z (pE Z (bH Z Z (aZ 1 Z ?_)))));refine bH Z Z (pE Z (bH Z Z (aZ 2 Z ?_)));refine ab (cc Z Z Z)
 refine qs (be Z (fun I=>?_) (fun I=>?_));·
  have N:l6 l=12:=by unfold l6;rw[if_neg (by simp[h0]),if_pos (by cases hs:l.sn <;> simp[hs] at I ⊢ <;> omega)]
  refine ba 2 Z ?_;refine W.ret (bo (QF.br trivial Z ?_));rw[N];rfl
 have h1:¬ (1 < l.ds.length∨0 < l.sn.length):=by simp at I;obtain⟨a,b⟩:=I;simp[b];omega
 refine ah (qs ?_);iterate 2 refine ae ?_
 refine aa (aZ 1 Z ?_);refine pu (bm Z Z Z (DD l U X) Z) Z ?_;refine aZ 2 Z ?_;refine ab (qs (be Z (fun J=>?_) (fun J=>?_)));·
  have N:l6 l=1:=by unfold l6;rw[if_neg (by simp[h0]),if_neg h1]
  refine ba 2 Z ?_;refine W.ret (bo (QF.br trivial Z ?_));rw[N];rfl
 exfalso;have ad:pF l=gY l.ps:=by unfold pF;rw[if_neg (by simp[h0])]
 rw[ad] at J;rcases O with q | q | q
 ·exact q h0
 ·exact h1 q
 simp at J;exact q J
theorem CS (ts:List dc) (ps:List bw) (ok:IY ts) (okp:uk ts ps):bq Tryz.prog 68 [.ag (oE ts),.d (.sl (ps.map bw.c))] (.d (.v (.int .i64 (fT ps)))) 0:=by
 obtain⟨ids,hids⟩:∃ ids,ids=ts.map dc.id:=⟨_,rfl⟩
 have hnd:ids.Nodup:=hids▸ok.2
 have hpi:(ps.map bw.thread).Sublist ids:=hids▸okp.1
 have hpn:(ps.map bw.thread).Nodup:=hnd.sublist hpi
 refine bq.bZ (n:=63) (ts:=[4]) Tryz.func68 (by kernel_rfl) rfl Tryz.ntmps68 Tryz.results68 rfl rfl fun C hC hG=>?_
 refine ae (aa (cG rfl rfl rfl (pE rfl (ab (qs (ae (aa (Ib rfl ?_))))))))
 refine pE rfl (ab (qs (ae (ba 4 rfl ?_))))
 refine W.block (W.len (t:=16) rfl rfl (fun hlen=>?_))
 try simp only[List.length_map,Ex.bA] at hlen
 refine W.b7 (ι:={x:Nat // match x with | k=>k≤ts.length})
  (fun x=>match x.1 with | k=>[(1,.d (.sl (ps.map bw.c))),(5,.mq 1 (jD ik (qG ids k))),(18,.d (.v (.int .i64 ((k:Nat):Int))))]) [(16,_),(17,_)]
  (fun x=>match x.1 with | k=>[(0,(oE ts).map A.d)]) [] [1] 2 (fun x=>match x.1 with | k=>ts.length - k)
  [0,1] ⟨0,?_⟩ rfl ?_ ⟨rfl,rfl,rfl,rfl,trivial⟩ ?_ trivial rfl ?_
 · exact Nat.zero_le _
 · repeat' first | exact trivial | refine⟨rfl,?_⟩
 · repeat' first | exact trivial | refine⟨rfl,?_⟩
 rintro⟨k,hk⟩
 show W _ _ _ _ _ ⟨[(1,.d (.sl (ps.map bw.c))),(5,.mq 1 (jD ik (qG ids k))),(18,.d (.v (.int .i64 ((k:Nat):Int)))),(16,_),(17,_)],[(0,(oE ts).map A.d)],[1],2⟩
 refine ba 1 rfl ?_
 refine ae (cB (l:=ts) (k:=k) rfl (by simp[Ex.bA,bk]) hk (fun t hx hd hlt=>?_) (fun he hd=>?_))
 ·
  have hti:ids[k]? = some t.id:=by rw[hids];simp[hx]
  refine ah (qs (ae (W.block (ae (aa (pu (indexAddr aX rfl rfl rfl rfl rfl rfl (Int.natCast_nonneg _) (bN hx) rfl) rfl ?_))))))
  refine aZ 1 rfl ?_
  refine bK aX rfl rfl rfl (bl aX rfl rfl rfl rfl rfl rfl rfl rfl (ab (qs (aa (aZ 3 rfl ?_)))))
  refine pu (build aX rfl rfl rfl rfl) rfl ?_
  refine cG rfl rfl rfl ?_
  first | refine Fy (kf:=ik) (l:=qG ids k) (a:=t.id) (y:=z2) aX 5 rfl rfl rfl rfl rfl rfl rfl rfl (eY (aX.eS rfl rfl)) rfl rfl (by rw[x6];exact hnd.sublist (List.take_sublist _ _)) (by rw[x6];exact nM hnd hti) rfl rfl (by rw[EG hti]) rfl ?_
  refine ab (ca (qs (cQ 2 rfl ?_)))
  refine W.cr [0,5] ⟨k+1,?_⟩ ?_ rfl ?_ ⟨rfl,rfl,rfl,rfl,trivial⟩ ?_ trivial rfl
  · exact hlt
  · dsimp only;omega
  · repeat' first | exact trivial | refine⟨rfl,?_⟩ | refine⟨bJ (by assumption) (by assumption),?_⟩
  repeat' first | exact trivial | refine⟨rfl,?_⟩
 have hq:qG ids k=oL ids []:=by rw[FE];exact Fp (by rw[hids,List.length_map];exact he)
 rw[hq]
 refine an (bT (bR (bP (qs (ba 1 rfl ?_)))))
 refine ae (ba 3 rfl ?_)
 refine W.block (W.len (t:=28) rfl rfl (fun hlen=>?_))
 try simp only[List.length_map,Ex.bA] at hlen
 refine W.b7 (ι:={x:Nat×Nat // match x with | (k,c)=>k≤ps.length∧fT (ps.drop k)=fT ps∧c=((ps.take k).map fun p=>p.evs.length).sum})
  (fun x=>match x.1 with | (k,c)=>[(5,.mq 1 (jD ik (oL ids ((ps.take k).map bw.thread)))),(8,.d (.v (.int .i64 ((c:Nat):Int)))),(30,.d (.v (.int .i64 ((k:Nat):Int))))]) [(28,_),(29,_)]
  (fun x=>match x.1 with | (k,c)=>[(0,(oE ts).map A.d)]) [] [1] 2 (fun x=>match x.1 with | (k,c)=>ps.length - k)
  [0,1] ⟨(0,0),?_⟩ rfl ?_ ⟨rfl,rfl,rfl,rfl,trivial⟩ ?_ trivial rfl ?_
 · exact⟨Nat.zero_le _,rfl,rfl⟩
 · repeat' first | exact trivial | refine⟨rfl,?_⟩
 · repeat' first | exact trivial | refine⟨rfl,?_⟩
 rintro⟨⟨k,c⟩,hk,hI,hc⟩
 show W _ _ _ _ _ ⟨[(5,.mq 1 (jD ik (oL ids ((ps.take k).map bw.thread)))),(8,.d (.v (.int .i64 ((c:Nat):Int)))),(30,.d (.v (.int .i64 ((k:Nat):Int)))),(28,_),(29,_)],[(0,(oE ts).map A.d)],[1],2⟩
 refine ba 1 rfl ?_
 refine ae (cB (l:=ps) (k:=k) rfl (by simp[Ex.bA,bk]) hk (fun p hx hd hlt=>?_) (fun he hd=>?_))
 ·
  obtain⟨hs0,hl0,he0,he1⟩:=okp.2.1 p (List.mem_of_getElem? hx)
  obtain⟨ix,hpt⟩:∃ ix:Nat,ids[ix]? = some p.thread:=List.mem_iff_getElem?.1 (hpi.subset (List.mem_map.2 ⟨p,List.mem_of_getElem? hx,rfl⟩))
  have hnu:p.thread∉(ps.take k).map bw.thread:=pj hpn hx
  have hus:(ps.take (k+1)).map bw.thread=(ps.take k).map bw.thread++[p.thread]:=by rw[List.take_add_one,hx,List.map_append];rfl
  have hth:0≤p.thread∧p.thread≤1000000000000000:=by
   have:=List.mem_of_getElem? hpt
   rw[hids] at this
   obtain⟨t,ht,e⟩:=List.mem_map.1 this
   have:=ok.1 t ht
   omega
  obtain⟨th,se,lo,evs⟩:=p
  simp only at hs0 hl0 he0 he1 hth hpt hnu hus
  subst hs0
  subst hl0
  obtain⟨e,r,her⟩:∃ e r,evs=e::r:=by
   cases evs with
   | nil=>simp at he0
   | cons e r=>exact⟨e,r,rfl⟩
  subst her
  have hcl:c≤20000:=hc▸Nat.le_trans (xF ps k) okp.2.2
  have hrl:r.length≤1000:=by simp at he1;omega
  obtain⟨z,hz⟩:∃ z,(e::r)[r.length]? = some z:=⟨(e::r)[r.length],by simp⟩
  refine ah (qs (ae (W.block (ae (aa (pu (indexAddr aX rfl rfl rfl rfl rfl rfl (Int.natCast_nonneg _) (bN hx) rfl) rfl ?_))))))
  refine aZ 1 rfl ?_
  refine bK aX rfl rfl rfl (bl aX rfl rfl rfl rfl rfl rfl rfl rfl (ab (qs ?_)))
  iterate 2 refine ae ?_
  refine aa (aZ 1 rfl ?_)
  refine pu (bm rfl rfl rfl (CG ⟨th,0,0,e::r⟩ hth rfl rfl ⟨he0,he1⟩) rfl) rfl ?_
  refine pE rfl (ab (qs (ba 2 rfl ?_)))
  refine be rfl (fun h37=>?_) (fun h37=>?_)
  ·
   have hg:fT ps=iU (e::r) none:=by
    rw[←hI,hd,fT]
    exact if_pos (by simpa using h37)
   refine ba 2 rfl ?_
   refine W.ret (bo (bz (bo (dI (bz (bo (QF.br trivial rfl ?_)))))))
   rw[hg];rfl
  have ha0:iU (e::r) none=0:=by simpa using h37
  have ht0:0≤e.time:=FW (p:=⟨th,0,0,e::r⟩) rfl ha0
  refine ah (qs (ae (aa (aZ 3 rfl ?_))))
  refine DN (kf:=ik) (l:=oL ids ((ps.take k).map bw.thread)) (a:=th) (y:=z2) aX 5 ix rfl rfl rfl rfl rfl rfl rfl rfl (eY (aX.eS rfl rfl)) rfl rfl rfl rfl rfl (by rw[Eb];exact hnd) (FV hpt hnu) (by rw[Gi hnd hpt,←hus]) rfl ?_
  refine aZ 5 rfl ?_
  refine ab (qs (ae (ba 2 rfl ?_)))
  refine be rfl (fun h47=>?_) (fun h47=>?_)
  ·
   exfalso;simp at h47
  refine ah (qs ?_)
  iterate 2 refine ae ?_
  refine aa (aZ 2 rfl ?_)
  refine bG [5] [] rfl rfl rfl rfl rfl ((AY th e r ht0)) rfl rfl (by rfl) (by rfl) rfl rfl rfl rfl ?_
  refine pE rfl (ab (qs (be rfl (fun h51=>?_) (fun h51=>?_))))
  ·
   exfalso;simp at h51
  refine ah (qs (ae (aa (aZ 2 rfl ?_))))
  refine bG [5] [] rfl rfl rfl rfl rfl ((AQ th e r z hz hrl)) rfl rfl (by rfl) (by rfl) rfl rfl rfl rfl ?_
  refine ab (qs (aa (aZ 4 rfl ?_)))
  refine pu (dP (ev aX rfl) (y:=((c+(r.length+1):Nat):Int)) (by show IntKind.i64.wrap ((c:Int)+(((e::r).map Ev.c).length:Nat))=_;rw[List.length_map,List.length_cons,wrap64 (by omega)];omega)) rfl ?_
  refine pE rfl (ab (ca (qs (cQ 2 rfl ?_))))
  refine W.cr [0,3] ⟨(k+1,c+(r.length+1)),?_⟩ ?_ rfl ?_ ⟨rfl,rfl,rfl,rfl,trivial⟩ ?_ trivial rfl
  · exact⟨hlt,by rw[←hI,hd,fT,if_neg (by simpa using ha0)],by rw[hc,List.take_add_one,hx];simp⟩
  · dsimp only;omega
  · repeat' first | exact trivial | refine⟨rfl,?_⟩ | refine⟨bJ (by assumption) (by assumption),?_⟩
  repeat' first | exact trivial | refine⟨rfl,?_⟩
 have hg:fT ps=0:=by rw[←hI,hd];rfl
 have hcl:c≤20000:=hc▸Nat.le_trans (xF ps k) okp.2.2
 refine an (bT (bR (bP (qs (ae (ba 2 rfl ?_))))))
 refine be rfl (fun h62=>?_) (fun h62=>?_)
 ·
  exfalso;simp at h62;omega
 refine ah (qs (ba 1 rfl ?_))
 refine W.ret (QF.br trivial rfl ?_)
 rw[hg];rfl
abbrev I8 (th:Int):List D:=[ci th,ci 0,ci 0,.v (.slice none 0 0)]
theorem Gv (th:Int) (evs:List Ev) (h0:0 < evs.length) (h1:evs.length≤1000):cm Tryz.prog 69 [.xs 0 [I8 th],.d (.sl (evs.map Ev.c))] [] 1 (.own 0 [bw.c ⟨th,0,0,evs⟩]) [] 1:=by
 refine cm.dQ aX (n:=54) (rs:=[.tmp 4]) Tryz.func69 (by kernel_rfl) Z Tryz.ntmps69 Tryz.results69 Z Z fun C hC U=>?_;refine ba 1 Z ?_;refine ae (W.block ?_)
 refine W.b7 (ι:={x:Nat // match x with | j=>j≤1})
  (fun x=>match x.1 with | j=>[(0,.xs 0 [[ci th,ci 0,ci 0,I5 evs j]]),(1,.d (.sl ((v8 evs j).map Ev.c)))]) []
  (fun x=>match x.1 with | j=>[]) [] [0] 1 (fun x=>match x.1 with | j=>1 - j)
  [0] ⟨0,?_⟩ Z ?_ trivial ?_ trivial Z ?_
 ·exact Nat.zero_le _
 ·repeat' constructor
 ·repeat' exact trivial
 rintro⟨j,hj⟩;show W _ _ _ _ _ ⟨[(0,.xs 0 [[ci th,ci 0,ci 0,I5 evs j]]),(1,.d (.sl ((v8 evs j).map Ev.c)))],[],[0],1⟩;refine ae (ba 3 Z ?_);refine be Z (fun I=>?_) (fun I=>?_);·
  have M:j=0:=by
   match j,hj with
   | 0,_=>rfl
   | 1,_=>exfalso;simp[v8] at I
  subst M;refine ah (qs (W.block (ae (aa (aZ 2 Z ?_)))));refine pu (xk aX Z Z Z Z) Z ?_;refine pu (dP (ev aX Z) (y:=0) (by rfl)) Z ?_;refine pu (uy (l:=I8 th) aX Z Z Z Z Z Z (by decide) Z Z) Z ?_;refine pE Z (ab (qs (ae (aa (pE Z (pu (qq Z Z) Z ?_))))));refine pu (jP aX Z Z Z Z Z Z) Z ?_;refine pu (rN aX Z Z Z) Z ?_;refine pE Z (pu (dP (ev aX Z) (y:=1000) (by rfl)) Z ?_);refine aZ 2 Z ?_;refine pu (dP (ev aX Z) (y:=(evs.length:Int)) (by show(if (((evs.map Ev.c).length:Nat):Int) < 1000 then (((evs.map Ev.c).length:Nat):Int) else 1000)=_;rw[List.length_map];split <;> omega)) Z ?_;refine pE Z (ab (qs (ae (ba 2 Z ?_))));refine be Z (fun J=>?_) (fun J=>?_);·exfalso;have:=of_decide_eq_true J;omega
  refine ah (qs (ae ?_));apply W.rL aX 9 8;(case hB=>kernel_rfl);(case h1=>rfl);(case h2=>rfl);refine' iD ?p1_1 (ev aX Z) Z Z Z Z Z ?h_1;case' h_1=>skip
  refine' iD ?p1_2 (ev aX Z) Z Z Z Z Z ?h_2;case' h_2=>skip
  refine' iD ?p1_3 (qq Z Z) Z Z Z Z Z ?h_3;case' h_3=>skip
  refine' iD ?p1_4 (jP aX Z Z Z Z Z Z) Z Z Z Z Z ?h_4;case' h_4=>skip
  refine' nN (rN aX Z Z Z) Z Z Z Z Z ?h_5;case' h_5=>skip
  refine' iD ?p1_6 (ev aX Z) Z Z Z Z Z ?h_6;case' h_6=>skip
  refine' iD ?p1_7 (ev aX Z) Z Z Z Z Z ?h_7;case' h_7=>skip
  refine' nN (oq (fn:=Ev.c) (l:=evs) (i:=0) (j:=(evs.length:Int)) (r:=evs) aX Z Z Z Z Z (fun _=>rfl) Z Z (by decide) (by omega) (by omega) (by rw[show((evs.length:Int)).toNat=evs.length from rfl,List.take_length];rfl)) Z Z Z Z Z ?h_8;case' h_8=>skip
  refine' E3 (fun g=>?e_9) Z Z Z ?h_9;case e_9=>refine Bp (es2:=evs.map Ev.c) aX Z Z Z Z Z Z Z Z Z (fun x O=>by obtain⟨y,_,rfl⟩:=List.mem_map.1 O;rfl) (by rw[List.length_map];show evs.length*72≤140737488355328;omega) ?_;refine ab ?_;exact⟨rfl,rfl⟩
  case' h_9=>skip
  case p1_1=>exact(ev aX Z)
  case p1_2=>exact(ev aX Z)
  case p1_3=>exact(qq Z Z)
  case p1_4=>exact(jP aX Z Z Z Z Z Z)
  case p1_6=>exact(ev aX Z)
  case p1_7=>exact(ev aX Z)
  refine aE ?_;refine pu (qq Z Z) Z ?_;refine pu (jP aX Z Z Z Z Z Z) Z ?_;refine ux aX 0 Z Z Z Z Z Z Z Z Z Z Z Z Z ?_;refine ab (qs (aa (aZ 2 Z ?_)));refine pu (oq (fn:=Ev.c) (l:=evs) (i:=(evs.length:Int)) (j:=(evs.length:Int)) (r:=[]) aX Z Z Z Z Z (fun _=>rfl) Z Z (by omega) (by omega) (by omega) (by show(evs.take evs.length).drop evs.length=[];rw[List.take_length,List.drop_length])) Z ?_;refine pE Z (ab (ca (W.cr [2] ⟨1,?_⟩ ?_ Z ?_ trivial ?_ trivial Z)));·decide
  ·dsimp only;omega
  ·repeat' constructor
  repeat' exact trivial
 have N:j=1:=by
  match j,hj with
  | 0,_=>exfalso;have I:=of_decide_eq_false I;rw[List.length_map] at I;simp only[v8] at I;omega
  | 1,_=>rfl
 subst N;refine an (bT (bR (bP (qs (ba 2 Z ?_)))));refine Gr 4 Z Z Z Z ?_;refine W.ret (ak aX [1] trivial Z Z Z Z ?_ ?_);·trivial
 rfl
abbrev yh:D→D:=fun d=>d
def jI (l:List bw):List (Int×D):=l.map fun p=>(p.thread,.sl [p.c])
theorem lJ (l:List bw):(jI l).map (·.1)=l.map bw.thread:=by unfold jI;rw[List.map_map];rfl
theorem BR {l:List bw} {k:Nat} {p:bw} (I:(l.map bw.thread).Nodup) (h:l[k]? = some p):dp (jI (l.take k)) p.thread (.sl [p.c])=jI (l.take (k+1)):=by
 rw[iF];·
  unfold jI;rw[List.take_add_one,h,List.map_append];rfl
 intro q J e;have:=pj I h;rw[←lJ] at this;exact this (List.mem_map.2 ⟨q,J,e⟩)
theorem Co {l:List bw} {k:Nat} {p:bw} (I:(l.map bw.thread).Nodup) (h:l[k]? = some p):(cb (jI (l.take k)) p.thread).getD (.v (.slice none 0 0))=.v (.slice none 0 0):=by rw[sT];rfl;intro q J e;have:=pj I h;rw[←lJ] at this;exact this (List.mem_map.2 ⟨q,J,e⟩)
theorem B9 (l:List bw) (a:Int):(cb (jI l) a).getD (.v (.slice none 0 0))=match l.find? fun p=>decide (p.thread=a) with | some p=>.sl ([p].map bw.c) | none=>.v (.slice none 0 0):=by
 induction l with
 | nil=>rfl
 | cons p r I=>
  show(cb ((p.thread,D.sl [p.c])::jI r) a).getD _=_;rw[eW,List.find?_cons];by_cases e:p.thread=a;·rw[if_pos e];simp[e]
  rw[if_neg e,I];simp[e]
theorem B2 (ts:List dc) (ps:List bw) (okp:uk ts ps):bq Tryz.prog 22 [.ag (oE ts),.d (.sl (ps.map bw.c))] (.tup [.ag (fY ts ps).1.c,.d (ci (fY ts ps).2)]) 0:=by
 refine bq.dQ aX (n:=84) (rs:=[.cell 4 30,.tmp 5]) Tryz.func22 (by kernel_rfl) rfl Tryz.ntmps22 Tryz.results22 rfl fun C hC hG=>?_
 refine ae (aa (cG rfl rfl rfl (bK aX rfl rfl rfl (pE rfl (ab (qs ?_))))))
 iterate 2 refine ae ?_
 refine aa (aZ 1 rfl ?_)
 refine pu (bm rfl rfl rfl ((DQ _)) rfl) rfl ?_
 refine pE rfl (ab (qs (ba 2 rfl ?_)))
 refine be rfl (fun h18=>?_) (fun h18=>?_)
 ·
  have hg:fY ts ps=(kY,gJ ts):=by unfold fY;rw[if_pos (by simpa using h18)]
  refine ae (aa (pu (build aX rfl rfl rfl rfl) rfl ?_))
  refine iy 19 rfl rfl rfl ?_
  refine pE rfl (bl aX rfl rfl rfl rfl rfl rfl rfl rfl (pE rfl (ab (qs (W.ret (bo (QV.br aX trivial rfl ?_)))))))
  rw[hg];rfl
 have h0:gJ ts=0:=by simpa using h18
 obtain⟨ok,_,h64⟩:=xD h0
 have hn:(ps.map bw.thread).Nodup:=ok.2.sublist okp.1
 refine ah (qs ?_)
 iterate 2 refine ae ?_
 refine aa (aZ 2 rfl ?_)
 refine pu (bm rfl rfl rfl ((CS _ _ (by assumption) (by assumption))) rfl) rfl ?_
 refine pE rfl (ab (qs (ba 2 rfl ?_)))
 refine be rfl (fun h25=>?_) (fun h25=>?_)
 ·
  have hg:fY ts ps=(kY,fT ps):=by unfold fY;rw[if_neg (by simp[h0]),if_pos (by simpa using h25)]
  refine ae (aa (pu (build aX rfl rfl rfl rfl) rfl ?_))
  refine iy 26 rfl rfl rfl ?_
  refine pE rfl (bl aX rfl rfl rfl rfl rfl rfl rfl rfl (pE rfl (ab (qs (W.ret (bo (QV.br aX trivial rfl ?_)))))))
  rw[hg];rfl
 have hg:fY ts ps=(⟨ts,ep,ps⟩,0):=by unfold fY;rw[if_neg (by simp[h0]),if_neg (by simpa using h25)]
 refine ah (qs (ae (aa (mkMap rfl ?_))))
 refine pE rfl (ab (qs (ae (ba 3 rfl ?_))))
 refine W.block (W.len (t:=29) rfl rfl (fun hlen=>?_))
 try simp only[List.length_map,Ex.bA] at hlen
 refine W.b7 (ι:={x:Nat // match x with | k=>k≤ps.length})
  (fun x=>match x.1 with | k=>[(2,.ptr 0 0),(4,.ptr 1 0),(8,.mp 2 (dO ik yh (jI (ps.take k)))),(31,.d (.v (.int .i64 ((k:Nat):Int))))]) [(29,_),(30,_)]
  (fun x=>match x.1 with | k=>[(0,(oE ts).map A.d),(1,[.d (.v (.slice none 0 0)),.d (.v (.slice none 0 0)),.d (.v (.slice none 0 0)),.d (.v (.slice none 0 0))])]) [] [2] 3 (fun x=>match x.1 with | k=>ps.length - k)
  [0,1,2] ⟨0,?_⟩ rfl ?_ ⟨rfl,rfl,rfl,rfl,trivial⟩ ?_ trivial rfl ?_
 · exact Nat.zero_le _
 · repeat' first | exact trivial | refine⟨rfl,?_⟩
 · repeat' first | exact trivial | refine⟨rfl,?_⟩
 rintro⟨k,hk⟩
 show W _ _ _ _ _ ⟨[(2,.ptr 0 0),(4,.ptr 1 0),(8,.mp 2 (dO ik yh (jI (ps.take k)))),(31,.d (.v (.int .i64 ((k:Nat):Int)))),(29,_),(30,_)],[(0,(oE ts).map A.d),(1,[.d (.v (.slice none 0 0)),.d (.v (.slice none 0 0)),.d (.v (.slice none 0 0)),.d (.v (.slice none 0 0))])],[2],3⟩
 refine ba 1 rfl ?_
 refine ae (cB (l:=ps) (k:=k) rfl (by simp[Ex.bA,bk]) hk (fun p hx hd hlt=>?_) (fun he hd=>?_))
 ·
  obtain⟨hs0,hl0,he0,he1⟩:=okp.2.1 p (List.mem_of_getElem? hx)
  have hget:=Co hn hx
  have hput:=BR hn hx
  obtain⟨th,se,lo,evs⟩:=p
  simp only at hs0 hl0 he0 he1
  subst hs0
  subst hl0
  refine ah (qs (ae (W.block (ae (aa (pu (indexAddr aX rfl rfl rfl rfl rfl rfl (Int.natCast_nonneg _) (bN hx) rfl) rfl ?_))))))
  refine aZ 1 rfl ?_
  refine bK aX rfl rfl rfl (bl aX rfl rfl rfl rfl rfl rfl rfl rfl (ab (qs (ae (aa (aZ 3 rfl ?_))))))
  refine pu (jS (kf:=ik) (vf:=yh) (l:=jI (ps.take k)) (a:=th) (z:=.v (.slice none 0 0)) (r:=.v (.slice none 0 0)) aX rfl rfl rfl rfl rfl (eY (aX.eS rfl rfl)) rfl rfl rfl (fun _ _=>.v _ rfl) (by rw[lJ];exact um hn k) (by rw[hget])) rfl ?_
  refine pE rfl (ab (qs ?_))
  iterate 2 refine ae ?_
  apply bL;(case hb=>rfl)
  ·
   refine aZ 4 rfl ?_
   apply fI;(case hj=>rfl);(case hl=>rfl)
   ·
    intro g42
    iterate 3 refine bC rfl rfl rfl rfl ?_
    refine pE rfl (ab (cc rfl rfl rfl))
   intro g42
   refine bH rfl rfl (pE rfl (bH rfl rfl (pE rfl (bH rfl rfl (aZ 2 rfl ?_)))))
   refine ab (cc rfl rfl rfl)
  refine qs (be rfl (fun h46=>?_) (fun h46=>?_))
  ·
   refine W.Ir (d:=11) rfl rfl ?_
   refine aa (aZ 7 rfl ?_)
   refine pu (build aX rfl rfl rfl rfl) rfl ?_
   refine pu (b9 aX rfl rfl rfl rfl rfl rfl rfl rfl rfl) rfl ?_
   refine xu aX rfl rfl rfl rfl rfl rfl rfl rfl rfl rfl rfl (fun x hx=>by obtain rfl:=List.mem_singleton.1 hx;rfl) (by show 1*48≤140737488355328;decide) rfl ?_
   refine pE rfl (ab (qs ?_))
   apply W.rL aX 7 6;(case hB=>kernel_rfl);(case h1=>rfl);(case h2=>rfl)
   refine' iD ?p1_1 (ev aX rfl) rfl rfl rfl rfl rfl ?h_1
   case' h_1=>skip
   refine' iD ?p1_2 (ev aX rfl) rfl rfl rfl rfl rfl ?h_2
   case' h_2=>skip
   refine' iD ?p1_3 (ev aX rfl) rfl rfl rfl rfl rfl ?h_3
   case' h_3=>skip
   refine' nN (ev aX rfl) rfl rfl rfl rfl rfl ?h_4
   case' h_4=>skip
   refine' iD ?p1_5 (ev aX rfl) rfl rfl rfl rfl rfl ?h_5
   case' h_5=>skip
   refine' nN (ev aX rfl) rfl rfl rfl rfl rfl ?h_6
   case' h_6=>skip
   refine' E3 (fun g=>?e_7) rfl rfl rfl ?h_7
   case e_7=>
    refine bG [] [5] rfl rfl rfl rfl rfl ((Gv th evs he0 he1)) rfl rfl (by rfl) (by rfl) rfl rfl rfl rfl ?_
    refine ab ?_
    exact⟨rfl,rfl⟩
   case' h_7=>skip
   case p1_1=>exact(ev aX rfl)
   case p1_2=>exact(ev aX rfl)
   case p1_3=>exact(ev aX rfl)
   case p1_5=>exact(ev aX rfl)
   refine aE ?_
   first | refine mW (kf:=ik) (vf:=yh) (l:=jI (ps.take k)) (a:=th) (y:=.sl [bw.c ⟨th,0,0,evs⟩]) aX 8 rfl rfl rfl rfl rfl rfl rfl (eY (aX.eS rfl rfl)) rfl rfl (by rw[lJ];exact um hn k) (by rw[hput]) rfl ?_
   refine ab (ca (qs (cQ 2 rfl ?_)))
   refine W.cr [0,1,7] ⟨k+1,?_⟩ ?_ rfl ?_ ⟨rfl,rfl,rfl,rfl,trivial⟩ ?_ trivial rfl
   · exact hlt
   · dsimp only;omega
   · repeat' first | exact trivial | refine⟨rfl,?_⟩ | refine⟨bJ (by assumption) (by assumption),?_⟩
   repeat' first | exact trivial | refine⟨rfl,?_⟩
  exfalso;simp at h46
 have hpl:ps.take k=ps:=List.take_of_length_le (by omega)
 rw[hpl]
 have htm:ts.length≤maxLen:=by simp only[maxLen];omega
 refine an (bT (bR (bP (qs (ae (aa (aZ 1 rfl ?_)))))))
 refine pu (build aX rfl rfl rfl rfl) rfl ?_
 refine bK aX rfl rfl rfl (bl aX rfl rfl rfl rfl rfl rfl rfl rfl (ab (qs ?_)))
 iterate 2 refine ae ?_
 refine eZ 3 3 rfl rfl rfl ?_
 refine cQ 4 rfl ?_
 refine qs (W.block ?_)
 refine W.b7 (ι:={x:Nat×List bw // match x with | (k,m)=>k≤ts.length∧m=nS (ts.take k) ps})
  (fun x=>match x.1 with | (k,m)=>[(4,.ptr 0 0),(8,.mp 2 (dO ik yh (jI ps))),(12,.ptr 1 0),(70,.d (.v (.int .i64 ((k:Nat):Int))))]) [(68,_),(69,_)]
  (fun x=>match x.1 with | (k,m)=>[(0,[.d (.v (.slice none 0 0)),.d (.v (.slice none 0 0)),.d (.v (.slice none 0 0)),.d (.v (.slice none 0 0))]),(1,[.d (.sl (ts.map dc.c)),.d (.sl (ep.map dC)),.d (.sl []),.own 3 (m.map bw.c)])]) [] [2,3] 4 (fun x=>match x.1 with | (k,m)=>ts.length - k)
  [1,3,2,4] ⟨(0,[]),?_⟩ rfl ?_ ⟨rfl,rfl,rfl,rfl,trivial⟩ ?_ trivial rfl ?_
 · exact⟨Nat.zero_le _,rfl⟩
 · repeat' first | exact trivial | refine⟨rfl,?_⟩
 · repeat' first | exact trivial | refine⟨rfl,?_⟩
 rintro⟨⟨k,m⟩,hk,hM⟩
 show W _ _ _ _ _ ⟨[(4,.ptr 0 0),(8,.mp 2 (dO ik yh (jI ps))),(12,.ptr 1 0),(70,.d (.v (.int .i64 ((k:Nat):Int)))),(68,_),(69,_)],[(0,[.d (.v (.slice none 0 0)),.d (.v (.slice none 0 0)),.d (.v (.slice none 0 0)),.d (.v (.slice none 0 0))]),(1,[.d (.sl (ts.map dc.c)),.d (.sl (ep.map dC)),.d (.sl []),.own 3 (m.map bw.c)])],[2,3],4⟩
 refine ba 1 rfl ?_
 refine ae (cB (l:=ts) (k:=k) rfl (by simp[Ex.bA,bk]) hk (fun t hx hd hlt=>?_) (fun he hd=>?_))
 ·
  obtain⟨ql,hql⟩:∃ ql,ql=(ps.find? fun p=>decide (p.thread=t.id)).toList:=⟨_,rfl⟩
  have hmn:m++ql=nS (ts.take (k+1)) ps:=by rw[hM,hql];unfold nS;rw[List.take_add_one,hx,List.flatMap_append];simp
  have hml:m.length≤64:=by rw[hM];exact D0 ps (by simp;omega)
  have hq1:ql.length≤1:=by rw[hql];cases ps.find? _ <;> simp
  have hget:(cb (jI ps) t.id).getD (.v (.slice none 0 0))=if ql=[] then .v (.slice none 0 0) else .sl (ql.map bw.c):=by rw[B9,hql];cases ps.find? _ <;> simp
  refine ah (qs (ae (W.block (ae (aa (pu (indexAddr aX rfl rfl rfl rfl rfl rfl (Int.natCast_nonneg _) (bN hx) rfl) rfl ?_))))))
  refine aZ 1 rfl ?_
  refine bK aX rfl rfl rfl (bl aX rfl rfl rfl rfl rfl rfl rfl rfl (ab (qs (aa (aZ 5 rfl ?_)))))
  refine pu (jS (kf:=ik) (vf:=yh) (l:=jI ps) (a:=t.id) (z:=.v (.slice none 0 0)) (r:=if ql=[] then .v (.slice none 0 0) else .sl (ql.map bw.c)) aX rfl rfl rfl rfl rfl (eY (aX.eS rfl rfl)) rfl rfl rfl (fun _ _=>.v _ rfl) (by rw[lJ];exact hn) (by rw[hget])) rfl ?_
  refine pT (l2:=ql) (fn:=bw.c) aX rfl rfl (by by_cases q:ql=[] <;> simp[q,ig]) rfl rfl rfl rfl rfl rfl rfl (fun _=>rfl) (by show(m.length+ql.length)*48≤_;omega) ?_
  refine pE rfl (bl aX rfl rfl rfl rfl rfl rfl rfl rfl (ab (ca (qs (cQ 2 rfl ?_)))))
  refine W.cr [0,1,2,5] ⟨(k+1,m++ql),?_⟩ ?_ rfl ?_ ⟨rfl,rfl,rfl,rfl,trivial⟩ ?_ trivial rfl
  · exact⟨hlt,hmn⟩
  · dsimp only;omega
  · repeat' first | exact trivial | refine⟨rfl,?_⟩ | refine⟨bJ (by assumption) (by assumption),?_⟩
  repeat' first | exact trivial | refine⟨rfl,?_⟩
 have hpm:m=ps:=by rw[hM,List.take_of_length_le (by omega),qa okp.1 ok.2]
 subst hpm
 refine an (bT (bR (bP (qs (ae (aa (aZ 1 rfl ?_)))))))
 refine bl aX rfl rfl rfl rfl rfl rfl rfl rfl (pE rfl (ab (qs (W.ret (QV.br aX trivial rfl ?_)))))
 rw[hg];rfl
theorem Im {ts:List dc} {ps:List bw} (h:(fY ts ps).2=0):(fY ts ps).1=⟨ts,ep,ps⟩:=by
 unfold fY at h ⊢;split at h;·rename_i q;exact absurd h q
 rename_i q;rw[if_neg q];split at h;·rename_i q2;exact absurd h q2
 rename_i q2;rw[if_neg q2]
theorem wg (ts:List dc) (ps:List bw) (ok:uk ts ps):bq Tryz.prog 12 [.ag (jJ.c ⟨ts,ep,ps⟩)] (.d (ci (fY ts ps).2)) 0:=by
 refine bq.bZ (n:=22) (ts:=[2]) Tryz.func12 (by kernel_rfl) Z Tryz.ntmps12 Tryz.results12 Z Z fun C hC M=>?_;refine ae (aa (cG Z Z Z (pE Z (ab (qs (ae (aa (aZ 4 Z ?_))))))));refine pu (bm Z Z Z (B2 ts ps ok) Z) Z ?_;refine aZ 3 Z ?_;refine bK aX Z Z Z (bl aX Z Z Z Z Z Z Z Z (pE Z (ab (qs ?_))));iterate 2 refine ae ?_
 apply bL;(case hb=>rfl);·
  refine aZ 3 Z ?_;apply fI;(case hj=>rfl);(case hl=>rfl);·
   intro g15;refine bH Z Z (aZ 1 Z ?_);refine bH Z Z (aZ 1 Z ?_);refine bH Z Z (pu (bm Z Z Z (Ep (fY ts ps).1 ⟨ts,ep,ps⟩) Z) Z ?_);refine bH Z Z (aZ 2 Z ?_);refine ab (cc Z Z Z)
  intro g15;iterate 4 refine bC Z Z Z Z ?_
  refine pE Z (ab (cc Z Z Z))
 refine qs (be Z (fun I=>?_) (fun I=>?_));·
  exfalso;have J:(fY ts ps).2=0→qM (fY ts ps).1 ⟨ts,ep,ps⟩=true:=fun q=>by rw[Im q];exact(Bj _ _).2 Z
  by_cases q:(fY ts ps).2=0;·rw[J q] at I;simp at I
  simp[q] at I
 refine ah (qs (ba 2 Z ?_));refine W.ret (QF.br trivial Z ?_);rfl
theorem Gp (ts:List dc) (ps:List bw) (ok:uk ts ps):bq Tryz.prog 13 [.ag (jJ.c ⟨ts,ep,ps⟩)] (.d (.sl [])) 0:=by
 refine bq.bZ (n:=34) (ts:=[2]) Tryz.func13 (by kernel_rfl) rfl Tryz.ntmps13 Tryz.results13 rfl rfl fun C hC hG=>?_
 refine ae (aa (cG rfl rfl rfl (pE rfl (ab (qs ?_)))))
 iterate 2 refine ae ?_
 refine aa (aZ 1 rfl ?_)
 refine pu (bm rfl rfl rfl (wg ts ps ok) rfl) rfl ?_
 refine pE rfl (ab (qs (be rfl (fun h8=>?_) (fun h8=>?_))))
 ·
  refine ba 1 rfl ?_
  try refine mz (d:=2) rfl rfl ?_
  refine W.ret (bo (QF.br trivial rfl ?_))
  rfl
 refine ah (qs (ba 1 rfl ?_))
 refine ae (ba 4 rfl ?_)
 refine W.block (W.len (t:=10) rfl rfl (fun hlen=>?_))
 try simp only[List.length_map,Ex.bA] at hlen
 refine W.b7 (ι:={x:Nat // match x with | k=>k≤ps.length})
  (fun x=>match x.1 with | k=>[(3,.d (.v (.slice none 0 0))),(12,.d (.v (.int .i64 ((k:Nat):Int))))]) [(10,_),(11,_)]
  (fun x=>match x.1 with | k=>[]) [] [] 0 (fun x=>match x.1 with | k=>ps.length - k)
  [] ⟨0,?_⟩ rfl ?_ ⟨rfl,rfl,rfl,rfl,trivial⟩ ?_ trivial rfl ?_
 · exact Nat.zero_le _
 · repeat' first | exact trivial | refine⟨rfl,?_⟩
 · repeat' exact trivial
 rintro⟨k,hk⟩
 show W _ _ _ _ _ ⟨[(3,.d (.v (.slice none 0 0))),(12,.d (.v (.int .i64 ((k:Nat):Int)))),(10,_),(11,_)],[],[],0⟩
 refine ba 1 rfl ?_
 refine ae (cB (l:=ps) (k:=k) rfl (by simp[Ex.bA,bk]) hk (fun p hx hd hlt=>?_) (fun he hd=>?_))
 ·
  refine ah (qs (ae (W.block (ae (aa (pu (indexAddr (l:=p.c) aX rfl rfl rfl rfl rfl rfl (Int.natCast_nonneg _) (bN hx) rfl) rfl ?_))))))
  refine aZ 1 rfl ?_
  refine bK aX rfl rfl rfl (bl aX rfl rfl rfl rfl rfl rfl rfl rfl (ab (qs (ba 3 rfl ?_))))
  refine be rfl (fun h18=>?_) (fun h18=>?_)
  ·
   exfalso
   have:=(ok.2.1 p (List.mem_of_getElem? hx)).2.1
   simp at h18
   omega
  refine ah (ca (qs (cQ 2 rfl ?_)))
  refine W.cr [] ⟨k+1,?_⟩ ?_ rfl ?_ ⟨rfl,rfl,rfl,rfl,trivial⟩ ?_ trivial rfl
  · exact hlt
  · dsimp only;omega
  · repeat' first | exact trivial | refine⟨rfl,?_⟩ | refine⟨bJ (by assumption) (by assumption),?_⟩
  repeat' exact trivial
 refine an (bT (bR (bP (qs (ba 2 rfl ?_)))))
 try refine mz (d:=2) rfl rfl ?_
 refine W.ret (QF.br trivial rfl ?_)
 rfl
end Go.Proofs.YtpiaiiopakafhaaGreatDoor
namespace Go.Proofs.YtpiaiiopakafhaaGreatDoor
open Go.Ab Go.RowKit
abbrev tB:Nat:=150
abbrev tU:Nat:=5
theorem xZ:(Tryz.prog.info? tB).map (·.size)=some 2:=by kernel_rfl
theorem DB:liesAt Tryz.prog Tryz.prog.depth tB (2 / Tryz.prog.cellsOf tB) 0 tB 1=true:=by kernel_rfl
set_option maxHeartbeats 1000000 in
set_option maxRecDepth 100000 in
theorem D4 (b:Nat) (w:World) (h0:w.cell? ⟨b,0,none⟩=some (.pointer (some ⟨b,0,none⟩))) :
 Calls Tryz.prog 170 #[.pointer (some ⟨b,0,none⟩)] w fun e w'=>e=.returned (.tuple #[])∧w'=w:=by
 obtain⟨j,hj,_⟩:=Option.map_eq_some_iff.1 xZ;have t150:=Tryz.underlying150;have I:=Tryz.isAgg150;have J:=Tryz.sizeOf150;have M:=run_underlying Tryz.underlying150;have t147:=Tryz.underlying147;have N:=Tryz.isAgg147;have O:=Tryz.sizeOf147;have U:=run_underlying Tryz.underlying147;have t225:=Tryz.underlying225;have X:=Tryz.isAgg225;have ad:=Tryz.sizeOf225;have ai:=run_underlying Tryz.underlying225
 go_enter Tryz.func170,Tryz.ntmps170
 go_wp2
 rw[Lib.run_neq_ptr_same w _ Tryz.underlying147 hj]
 go_wp2
 go_end0
 exact⟨rfl,rfl⟩
set_option maxHeartbeats 1000000 in
set_option maxRecDepth 100000 in
theorem BH (b:Nat) (w:World) (h0:w.cell? ⟨b,0,none⟩=some (.pointer none)) (I:w.shape? b=some (tB,2)) (a6:w.frozen? ⟨b,0,none⟩=false) :
 Calls Tryz.prog 170 #[.pointer (some ⟨b,0,none⟩)] w fun e w'=>e=.returned (.tuple #[])∧w'=w.setCell ⟨b,0,none⟩ (.pointer (some ⟨b,0,none⟩)):=by
 obtain⟨j,hj,J⟩:=Option.map_eq_some_iff.1 xZ;have t150:=Tryz.underlying150;have M:=Tryz.isAgg150;have N:=Tryz.sizeOf150;have O:=run_underlying Tryz.underlying150;have t147:=Tryz.underlying147;have U:=Tryz.isAgg147;have X:=Tryz.sizeOf147;have ad:=run_underlying Tryz.underlying147;have t225:=Tryz.underlying225;have ai:=Tryz.isAgg225;have aj:=Tryz.sizeOf225;have a1:=run_underlying Tryz.underlying225
 go_enter Tryz.func170,Tryz.ntmps170
 go_wp2
 rw[Lib.run_to_unsafe w ⟨b,0,none⟩ Tryz.underlying147 Tryz.underlying225 hj (by rw[J];decide) I (Nat.zero_lt_succ 1)];simp only[Result.andThen];rw[Oper.upon_value]
 go_wp2
 rw[run_callFunc_extern Tryz.func186 (by kernel_rfl) (by kernel_rfl) (by kernel_rfl) (e:=Extern.AbiNoEscape.same) (by kernel_rfl)];rw[Lib.run_noEscape];simp only[Result.andThen];rw[Oper.upon_value]
 go_wp2
 rw[Lib.run_from_unsafe w ⟨b,0,none⟩ Tryz.underlying225 Tryz.underlying147 hj I DB];simp only[Result.andThen];rw[Oper.upon_value]
 go_wp2
 go_end0
 exact⟨rfl,rfl⟩
theorem GS:jF Tryz.prog 170:=⟨_,Tryz.func170,by kernel_rfl,by kernel_rfl⟩
theorem BN:jF Tryz.prog 90:=⟨_,Tryz.func90,by kernel_rfl,by kernel_rfl⟩
theorem EE:mv Tryz.prog tB 170:=⟨D4,BH⟩
theorem z8:sw Tryz.prog tB tU 90:=fun B b l w h hB=>az B b l w h hB
end Go.Proofs.YtpiaiiopakafhaaGreatDoor
namespace Go.Proofs.YtpiaiiopakafhaaGreatDoor
open Go.Ab Go.Tb
set_option maxRecDepth 10000
set_option maxHeartbeats 1000000
attribute [local irreducible] W WO Pu QS QB QL QF QV cu CH QE
theorem ra (u:Bool) (s:ByteArray):cm Tryz.prog 170 [.ptr 0 0] [[.np 0 tB u,.bf 1 tU s]] 1 (.tup []) [[.np 0 tB true,.bf 1 tU s]] 1:=mv.DL GS EE u (.bf 1 tU s) 1
theorem B8 (u:Bool) (s x:ByteArray) (hb:s.size+x.size≤140737488355328):cm Tryz.prog 137 [.ptr 0 0,.d (.v (.string x))] [[.np 0 tB u,.bf 1 tU s]] 1 (.tup [.d (.v (.int .i64 x.size)),.d (.v .nilIface)]) [[.np 0 tB true,.bf 1 tU (s++x)]] 1:=by
 refine cm.dQ aX (n:=19) (rs:=[.tmp 4,.tmp 5]) Tryz.func137 (by kernel_rfl) Z Tryz.ntmps137 Tryz.results137 Z Z fun C hC I=>?_;refine ba 2 Z ?_;refine ae (aa (pE Z (bG [0] [1] Z Z Z Z Z ((ra u s)) Z Z (by rfl) (by rfl) Z Z Z Z ?_)));refine ab (qs (ae (aa (aZ 6 Z ?_))));refine Bv aX Z Z Z Z Z Z Z Z Z Z hb Z Z ?_;refine aZ 2 Z ?_;refine bl aX Z Z Z Z Z Z Z Z (ab (qs (ba 4 Z ?_)));refine W.ret (ak aX [4] trivial Z Z Z Z ?_ ?_);·exact⟨rfl,trivial⟩
 rfl
theorem pY (u:Bool) (s:ByteArray) (c:Int) (m:ByteArray) (hm:m.size=1) (I:∀ b,m.data[0]? = some b→(b.toNat:Int)=c) (hb:s.size+1≤140737488355328):cm Tryz.prog 139 [.ptr 0 0,.d (.v (.int .u8 c))] [[.np 0 tB u,.bf 1 tU s]] 1 (.d (.v .nilIface)) [[.np 0 tB true,.bf 1 tU (s++m)]] 1:=by
 refine cm.dQ aX (n:=17) (rs:=[.tmp 4]) Tryz.func139 (by kernel_rfl) Z Tryz.ntmps139 Tryz.results139 Z Z fun C hC J=>?_;refine ba 1 Z ?_;refine ae (aa (pE Z (bG [0] [1] Z Z Z Z Z ((ra u s)) Z Z (by rfl) (by rfl) Z Z Z Z ?_)));refine ab (qs (ae (aa (aZ 6 Z ?_))));refine pu (b9 aX Z Z Z Z Z Z Z Z Z) Z ?_;refine ze aX Z Z Z Z Z Z Z Z m hm I hb Z Z ?_;refine aZ 2 Z ?_;refine bl aX Z Z Z Z Z Z Z Z (ab (qs (ba 1 Z ?_)));refine W.ret (ak aX [4] trivial Z Z Z Z ?_ ?_);·exact⟨rfl,trivial⟩
 rfl
theorem yJ (b:UInt8):bq Tryz.prog 171 [.d (.v (.int .u8 b.toNat))] (.d (.v (.bool (known b)))) 0:=by
 refine bq.bZ (n:=17) (ts:=[2]) Tryz.func171 (by kernel_rfl) Z Tryz.ntmps171 Tryz.results171 Z Z fun C hC I=>?_;refine ba 1 Z ?_;refine ae ?_;apply bL;(case hb=>rfl);·repeat' first | refine cc Z Z Z | refine bH Z Z ?_ | refine bC Z Z Z Z ?_ | refine oT Z Z Z ?_ | refine pE Z ?_ | refine ab ?_ | (apply b8;(case hj=>rfl);(case hl=>rfl))
 refine qs (W.ret (QF.br trivial Z ?_));show A.d (D.v (Value.bool _))=A.d (D.v (Value.bool _));congr 3;unfold known;generalize b.toNat=n;simp only[show((n:Int)=9)=(n=9) from propext (by omega),show((n:Int)=10)=(n=10) from propext (by omega),show((32:Int)≤n)=(32≤n) from propext (by omega),show((n:Int)≤126)=(n≤126) from propext (by omega)];cases decide (n=9) <;> cases decide (n=10) <;> cases decide (32≤n) <;> cases decide (n≤126) <;> rfl
theorem plain_fn (s:ByteArray):bq Tryz.prog 144 [.d (.v (.string s))] (.d (.v (.bool (eR s)))) 0:=by
 refine bq.bZ (n:=15) (ts:=[2]) Tryz.func144 (by kernel_rfl) Z Tryz.ntmps144 Tryz.results144 Z Z fun C hC O=>?_;refine ba 1 Z ?_;refine ae (ba 3 Z ?_);refine W.block (W.ot (t:=0) Z (fun hok=>?_));have hlen:=mD hok
 refine W.b7 (ι:={x:Nat // match x with | k=>k≤(bc s).length∧((bc s).drop k).all known=(bc s).all known})
  (fun x=>match x.1 with | k=>[(6,.d (.v (.int .i64 ((k:Nat):Int))))]) [(0,_),(5,_)]
  (fun x=>match x.1 with | k=>[]) [] [] 0 (fun x=>match x.1 with | k=>(bc s).length - k)
  [] ⟨0,?_⟩ Z ?_ ⟨rfl,rfl,rfl,rfl,trivial⟩ ?_ trivial Z ?_
 ·exact⟨Nat.zero_le _,rfl⟩
 ·repeat' constructor
 ·repeat' exact trivial
 rintro⟨k,N,I⟩;show W _ _ _ _ _ ⟨[(6,.d (.v (.int .i64 ((k:Nat):Int)))),(0,_),(5,_)],[],[],0⟩;refine ba 1 Z ?_;refine ae (cB (l:=bc s) (k:=k) Z (by simp[Ex.bA,bk]) N (fun b U hd J=>?_) (fun he hd=>?_));·
  rw[hd,List.all_cons] at I;refine ah (qs (ae (W.block (ba 2 Z ?_))));refine ae (aa (aZ 2 Z ?_));refine pu (eU aX Z Z Z Z (Int.natCast_nonneg _) (iG (by assumption))) Z ?_;refine pu (bm Z Z Z (yJ ..) Z) Z ?_;refine pE Z (ab (qs (be Z (fun M=>?_) (fun M=>?_))));·
   refine ba 1 Z ?_;refine W.ret (bz (bo (dI (bz (bo (QF.br trivial Z ?_))))));simp only[norm,bW];unfold eR;rw[←I];simp_all
  refine ah (ca (qs (cQ 2 Z ?_)));refine W.cr [] ⟨k+1,?_⟩ ?_ Z ?_ ⟨rfl,rfl,rfl,rfl,trivial⟩ ?_ trivial Z;·exact⟨J,by rw[←I];simp_all⟩
  ·dsimp only;omega
  ·repeat' first | exact trivial | refine⟨bJ (by assumption) (by assumption),?_⟩
  repeat' exact trivial
 rw[hd] at I;refine an (bT (bR (bP (qs (ba 1 Z ?_)))));refine W.ret (QF.br trivial Z ?_);simp only[norm,bW];unfold eR;rw[←I];simp_all
theorem Gu (a b:Nat) (I:a≤maxLen) (hb:b≤maxLen):decide (IntKind.i64.wrap ((a:Int)+(b:Int))=0)=decide (a+b=0):=by
 have e:maxLen=9223372036854775807:=rfl;have h:=wrap_zero (x:=(a:Int)+(b:Int)) (by omega) (by omega);by_cases q:a+b=0;·rw[decide_eq_true q,decide_eq_true (h.2 (by omega))]
 rw[decide_eq_false q,decide_eq_false (fun z=>q (by have:=h.1 z;omega))]
theorem CV (j:JV):bq Tryz.prog 142 [.ag j.c] (.d (.v (.bool (dy j)))) 0:=by
 refine bq.bZ (n:=91) (ts:=[2]) Tryz.func142 (by kernel_rfl) Z Tryz.ntmps142 Tryz.results142 Z Z fun C hC hG=>?_;refine ae (aa (cG Z Z Z (pE Z (ab (qs ?_)))));iterate 2 refine ae ?_
 refine CP (g:=0) (j:=3) Z Z (fun M=>?_);refine CP (g:=0) (j:=4) Z Z (fun N=>?_);rw[List.length_map] at M;rw[JV.bA] at N;have I:=Gu _ _ M N;refine cQ 2 Z ?_;refine qs (W.block (ba 2 Z ?_));refine be Z (fun h5=>?_) (fun h5=>?_);·
  refine ae ?_;apply bL;(case hb=>rfl);·repeat' first | refine cc Z Z Z | refine bH Z Z ?_ | refine bC Z Z Z Z ?_ | refine pE Z ?_ | refine ab ?_ | (apply b8;(case hj=>rfl);(case hl=>rfl))
  refine qs (W.ret (bz (bo (QF.br trivial Z ?_))));show A.d (D.v (Value.bool _))=A.d (D.v (Value.bool _));congr 3;unfold dy;try simp only[List.length_map,JV.bA,I]
  simp only[decide_eq_true_eq,decide_eq_false_iff_not] at *;simp_all <;> grind
 refine ae (ba 2 Z ?_);refine be Z (fun J=>?_) (fun J=>?_);·
  refine ah (qs (W.js Z (ae ?_)));apply bL;(case hb=>rfl);·repeat' first | refine cc Z Z Z | refine bH Z Z ?_ | refine bC Z Z Z Z ?_ | refine pE Z ?_ | refine ab ?_ | (apply b8;(case hj=>rfl);(case hl=>rfl))
  refine qs (W.ret (bz (bo (QF.br trivial Z ?_))));show A.d (D.v (Value.bool _))=A.d (D.v (Value.bool _));congr 3;unfold dy;try simp only[List.length_map,JV.bA,I]
  simp only[decide_eq_true_eq,decide_eq_false_iff_not] at *;simp_all <;> grind
 refine cQ 2 Z ?_;refine qs (be Z (fun J=>?_) (fun J=>?_));·
  refine ae ?_;apply bL;(case hb=>rfl);·repeat' first | refine cc Z Z Z | refine bH Z Z ?_ | refine bC Z Z Z Z ?_ | refine pE Z ?_ | refine ab ?_ | (apply b8;(case hj=>rfl);(case hl=>rfl))
  refine qs (W.ret (bz (bo (QF.br trivial Z ?_))));show A.d (D.v (Value.bool _))=A.d (D.v (Value.bool _));congr 3;unfold dy;try simp only[List.length_map,JV.bA,I]
  simp only[decide_eq_true_eq,decide_eq_false_iff_not] at *;simp_all <;> grind
 refine ba 2 Z ?_;refine be Z (fun O=>?_) (fun O=>?_);·
  refine ae ?_;apply bL;(case hb=>rfl);·repeat' first | refine cc Z Z Z | refine bH Z Z ?_ | refine bC Z Z Z Z ?_ | refine pE Z ?_ | refine ab ?_ | (apply b8;(case hj=>rfl);(case hl=>rfl))
  refine qs (W.ret (bz (bo (QF.br trivial Z ?_))));show A.d (D.v (Value.bool _))=A.d (D.v (Value.bool _));congr 3;unfold dy;try simp only[List.length_map,JV.bA,I]
  simp only[decide_eq_true_eq,decide_eq_false_iff_not] at *;simp_all <;> grind
 refine ba 2 Z ?_;refine be Z (fun U=>?_) (fun U=>?_);·
  refine ae ?_;apply bL;(case hb=>rfl);·repeat' first | refine cc Z Z Z | refine bH Z Z ?_ | refine bC Z Z Z Z ?_ | refine pE Z ?_ | refine ab ?_ | (apply b8;(case hj=>rfl);(case hl=>rfl))
  refine qs (W.ret (bz (bo (QF.br trivial Z ?_))));show A.d (D.v (Value.bool _))=A.d (D.v (Value.bool _));congr 3;unfold dy;try simp only[List.length_map,JV.bA,I]
  simp only[decide_eq_true_eq,decide_eq_false_iff_not] at *;simp_all <;> grind
 refine ba 2 Z ?_;refine be Z (fun X=>?_) (fun X=>?_);·
  refine ae ?_;apply bL;(case hb=>rfl);·repeat' first | refine cc Z Z Z | refine bH Z Z ?_ | refine bC Z Z Z Z ?_ | refine pE Z ?_ | refine ab ?_ | (apply b8;(case hj=>rfl);(case hl=>rfl))
  refine qs (W.ret (bz (bo (QF.br trivial Z ?_))));show A.d (D.v (Value.bool _))=A.d (D.v (Value.bool _));congr 3;unfold dy;try simp only[List.length_map,JV.bA,I]
  simp only[decide_eq_true_eq,decide_eq_false_iff_not] at *;simp_all <;> grind
 refine ah (ca (qs (ba 1 Z ?_)));refine W.ret (QF.br trivial Z ?_);show A.d (D.v (Value.bool _))=A.d (D.v (Value.bool _));congr 3;unfold dy;try simp only[List.length_map,JV.bA,I]
 simp only[decide_eq_true_eq,decide_eq_false_iff_not] at *;simp_all <;> grind
theorem y8 (l:List ByteArray):bq Tryz.prog 146 [.d (.sl (l.map sc))] (.d (.v (.bool (gz [] l)))) 0:=by
 refine bq.bZ (n:=19) (ts:=[2]) Tryz.func146 (by kernel_rfl) rfl Tryz.ntmps146 Tryz.results146 rfl rfl fun C hC hG=>?_
 refine ba 1 rfl ?_
 refine ae (aa (mkMap rfl ?_))
 refine pE rfl (ab (qs (ae (ba 3 rfl ?_))))
 refine W.block (W.len (t:=7) rfl rfl (fun hlen=>?_))
 try simp only[List.length_map,Ex.bA] at hlen
 refine W.b7 (ι:={x:Nat // match x with | k=>k≤l.length∧(l.take k).Nodup∧gz (l.take k) (l.drop k)=gz [] l})
  (fun x=>match x.1 with | k=>[(3,.mp 0 (dO sk bv (gN (l.take k)))),(9,.d (.v (.int .i64 ((k:Nat):Int))))]) [(7,_),(8,_)]
  (fun x=>match x.1 with | k=>[]) [] [0] 1 (fun x=>match x.1 with | k=>l.length - k)
  [0] ⟨0,?_⟩ rfl ?_ ⟨rfl,rfl,rfl,rfl,trivial⟩ ?_ trivial rfl ?_
 · exact⟨Nat.zero_le _,by simp,by simp⟩
 · repeat' first | exact trivial | refine⟨rfl,?_⟩
 · repeat' exact trivial
 rintro⟨k,hk,hn,hI⟩
 show W _ _ _ _ _ ⟨[(3,.mp 0 (dO sk bv (gN (l.take k)))),(9,.d (.v (.int .i64 ((k:Nat):Int)))),(7,_),(8,_)],[],[0],1⟩
 refine ba 1 rfl ?_
 refine ae (cB (l:=l) (k:=k) rfl (by simp[Ex.bA,bk]) hk (fun s hx hd hlt=>?_) (fun he hd=>?_))
 ·
  rw[hd] at hI
  simp only[gz] at hI
  have htk:l.take (k+1)=l.take k++[s]:=by rw[List.take_add_one,hx];rfl
  refine ah (qs (ae (W.block (ae (aa (pu (indexAddr aX rfl rfl rfl rfl rfl rfl (Int.natCast_nonneg _) (bN hx) rfl) rfl ?_))))))
  refine aZ 2 rfl ?_
  refine ab (qs ?_)
  iterate 2 refine ae ?_
  refine aa (aZ 2 rfl ?_)
  refine pu (jS (kf:=sk) (vf:=bv) (l:=gN (l.take k)) (a:=s) (z:=false) (zx:=.bool false) aX rfl rfl rfl rfl rfl (uq (aX.jB rfl rfl)) rfl rfl rfl (fun w pv=>.v _ rfl) (by rw[kF];exact hn) (congrArg bv (wi hn s))) rfl ?_
  refine ab (qs (be rfl (fun h15=>?_) (fun h15=>?_)))
  ·
   rw[if_pos h15] at hI
   refine ba 1 rfl ?_
   refine W.ret (bo (bz (bo (dI (bz (bo (QF.br trivial rfl ?_)))))))
   simp only[norm,bW];rw[←hI]
  rw[if_neg (by simp[h15])] at hI
  have hn2:=tX hn h15
  refine ah (qs (aa (aZ 2 rfl ?_)))
  refine mW (kf:=sk) (vf:=bv) (l:=gN (l.take k)) (a:=s) (y:=true) aX 3 rfl rfl rfl rfl rfl rfl rfl (uq (aX.jB rfl rfl)) rfl rfl (by rw[kF];exact hn) (congrArg (dO sk bv) ((vH h15).trans (congrArg gN htk.symm))) rfl ?_
  refine ab (ca (qs (cQ 2 rfl ?_)))
  refine W.cr [1] ⟨k+1,?_⟩ ?_ rfl ?_ ⟨rfl,rfl,rfl,rfl,trivial⟩ ?_ trivial rfl
  · exact⟨hlt,by rw[htk];exact hn2,by rw[htk];exact hI⟩
  · dsimp only;omega
  · repeat' first | exact trivial | refine⟨rfl,?_⟩ | refine⟨bJ (by assumption) (by assumption),?_⟩
  repeat' exact trivial
 rw[hd] at hI
 simp only[gz] at hI
 refine an (bT (bR (bP (qs (ba 1 rfl ?_)))))
 refine W.ret (QF.br trivial rfl ?_)
 simp only[norm,bW];rw[←hI]
theorem jQ (j:JV):j.c=[ci j.op,ci j.n,cs j.s,.sl (j.keys.map sc),.sl (j.kids.map JV.c)]:=by unfold JV.c;rw[JV.oP]
theorem gu (j:JV) (level:Int):cv j level=if fN j level≠0 then fN j level else dM j.kids (level+1):=by cases j;simp only[cv,JV.kids]
theorem zn (s:ByteArray):bq Tryz.prog 145 [.d (.v (.string s))] (.d (.v (.bool (!eR s)))) 0:=by refine bq.bZ (n:=6) (ts:=[2]) Tryz.func145 (by kernel_rfl) Z Tryz.ntmps145 Tryz.results145 Z Z fun C hC I=>?_;refine ba 1 Z ?_;refine ae (aa (pE Z (pu (bm Z Z Z (plain_fn ..) Z) Z ?_)));refine aZ 2 Z ?_;refine ab (qs (W.ret (QF.br trivial Z ?_)));rfl
theorem Ce:∀ (j:JV) (level:Int),0≤level→level≤17→bq Tryz.prog 95 [.ag j.c,.d (.v (.int .i64 level))] (.d (.v (.int .i64 (cv j level)))) 0:=by
 refine aI fun j J=>?_;intro level h0 h1;have I:=CV j;rw[jQ j] at I ⊢;have ai:dy j=true→j.op < 5→j.kids=[]:=by
  intro M a7;unfold dy at M;have e5:¬ j.op=5:=by omega
  have e6:¬ j.op=6:=by omega
  rw[if_neg e5,if_neg e6] at M;refine List.length_eq_zero_iff.1 ?_;split at M;·simp only[Bool.and_eq_true,decide_eq_true_eq] at M;omega
  split at M;·simp only[Bool.and_eq_true,decide_eq_true_eq] at M;omega
  split at M;·simp only[Bool.and_eq_true,decide_eq_true_eq] at M;omega
  cases M
 refine bq.bZ (n:=70) (ts:=[4]) Tryz.func95 (by kernel_rfl) Z Tryz.ntmps95 Tryz.results95 Z Z fun C hC hG=>?_;refine ae (aa (cG Z Z Z (pE Z (ab (qs (ae (W.block (ae (aa (aZ 1 Z ?_))))))))));refine pu (bm Z Z Z I Z) Z ?_;refine aZ 2 Z ?_;refine ab (qs (be Z (fun h8=>?_) (fun h8=>?_)));·
  refine ba 1 Z ?_;refine W.ret (bz (bo (QF.br trivial Z ?_)));clear J I;show A.d (D.v (Value.int _ _))=A.d (D.v (Value.int _ _));congr 3;rw[gu j];unfold fN;grind
 iterate 2 refine ae ?_
 apply bL;(case hb=>rfl);·repeat' first | refine cc Z Z Z | refine bH Z Z ?_ | refine bC Z Z Z Z ?_ | refine pE Z ?_ | refine ab ?_ | (apply b8;(case hj=>rfl);(case hl=>rfl))
 refine qs (be Z (fun O=>?_) (fun O=>?_));·
  refine ah (qs (W.js Z (ba 1 Z ?_)));refine W.ret (bz (bo (QF.br trivial Z ?_)));clear J I;show A.d (D.v (Value.int _ _))=A.d (D.v (Value.int _ _));congr 3;rw[gu j];unfold fN;grind
 apply bL;(case hb=>rfl);·repeat' first | refine cc Z Z Z | refine bH Z Z ?_ | refine bC Z Z Z Z ?_ | refine pE Z ?_ | refine pu (bm Z Z Z (EZ ..) Z) Z ?_ | refine ab ?_ | (apply b8;(case hj=>rfl);(case hl=>rfl))
 refine qs (be Z (fun O=>?_) (fun O=>?_));·
  refine ba 1 Z ?_;refine W.ret (bz (bo (QF.br trivial Z ?_)));clear J I;show A.d (D.v (Value.int _ _))=A.d (D.v (Value.int _ _));congr 3;rw[gu j];unfold fN;grind
 iterate 2 refine ae ?_
 refine aa (aZ 2 Z ?_);refine pu (bm Z Z Z (plain_fn ..) Z) Z ?_;refine aZ 2 Z ?_;refine ab (qs (be Z (fun U=>?_) (fun U=>?_)));·
  refine ah (qs (W.js Z (ba 1 Z ?_)));refine W.ret (bz (bo (QF.br trivial Z ?_)));clear J I;show A.d (D.v (Value.int _ _))=A.d (D.v (Value.int _ _));congr 3;rw[gu j];unfold fN;grind
 refine aa (aZ 2 Z ?_);refine pu (bm Z Z Z (uO _ [] ⟨fun _ _=>rfl,rfl⟩ _ zn j.keys) Z) Z ?_;refine pE Z (ab (qs (be Z (fun U=>?_) (fun U=>?_))));·
  refine ba 1 Z ?_;refine W.ret (bz (bo (QF.br trivial Z ?_)));clear J I;show A.d (D.v (Value.int _ _))=A.d (D.v (Value.int _ _));congr 3;rw[gu j];unfold fN;grind
 refine ae (aa (aZ 2 Z ?_));refine pu (bm Z Z Z (y8 ..) Z) Z ?_;refine pE Z (ab (qs (be Z (fun a1=>?_) (fun a1=>?_))));·
  refine ba 1 Z ?_;refine W.ret (bz (bo (QF.br trivial Z ?_)));clear J I;show A.d (D.v (Value.int _ _))=A.d (D.v (Value.int _ _));congr 3;rw[gu j];unfold fN;grind
 refine ae ?_;apply bL;(case hb=>rfl);·repeat' first | refine cc Z Z Z | refine bH Z Z ?_ | refine bC Z Z Z Z ?_ | refine pE Z ?_ | refine ab ?_ | (apply b8;(case hj=>rfl);(case hl=>rfl))
 refine qs (be Z (fun aj=>?_) (fun aj=>?_));·
  refine ba 1 Z ?_;refine W.ret (bz (bo (QF.br trivial Z ?_)));clear J I;show A.d (D.v (Value.int _ _))=A.d (D.v (Value.int _ _));congr 3;rw[gu j];unfold fN;grind
 refine ah (ca (qs (ae (ba 4 Z ?_))));refine W.block (W.len (t:=56) Z Z (fun hlen=>?_));try simp only[List.length_map,Ex.bA] at hlen
 refine W.b7 (ι:={x:Nat // match x with | k=>k≤j.kids.length∧dM (j.kids.drop k) (level+1)=dM j.kids (level+1)})
  (fun x=>match x.1 with | k=>[(58,.d (.v (.int .i64 ((k:Nat):Int))))]) [(1,_),(56,_),(57,_)]
  (fun x=>match x.1 with | k=>[]) [] [] 0 (fun x=>match x.1 with | k=>j.kids.length - k)
  [] ⟨0,?_⟩ Z ?_ ⟨rfl,rfl,rfl,rfl,rfl,rfl,trivial⟩ ?_ trivial Z ?_
 ·exact⟨Nat.zero_le _,by simp⟩
 ·repeat' constructor
 ·repeat' exact trivial
 rintro⟨k,hk,N⟩;show W _ _ _ _ _ ⟨[(58,.d (.v (.int .i64 ((k:Nat):Int)))),(1,_),(56,_),(57,_)],[],[],0⟩;refine ba 1 Z ?_;refine ae (cB (l:=j.kids) (k:=k) Z (by simp[Ex.bA,bk]) hk (fun x hx hd X=>?_) (fun he hd=>?_));·
  rw[hd] at N;simp only[dM] at N;have a8:level≤16:=by
   by_cases q:j.op < 5;·rw[ai (by simpa using h8) q] at X;simp at X
   revert aj;simp;omega
  have a6:=J x (List.mem_of_getElem? hx) (level+1) (by omega) (by omega);refine ah (qs (ae (W.block (ae (aa (pu (indexAddr aX Z Z Z Z Z Z (Int.natCast_nonneg _) (bN hx) Z) Z ?_))))));refine aZ 1 Z ?_;refine bK aX Z Z Z (bl aX Z Z Z Z Z Z Z Z (ab (qs (ae (aa (aZ 2 Z ?_))))));refine pu (dP (ev aX Z) (wrap64 (by omega))) Z ?_;refine pu (bm Z Z Z a6 Z) Z ?_;refine pE Z (ab (qs (ba 2 Z ?_)));refine be Z (fun ad=>?_) (fun ad=>?_);·
   have hc:cv x (level+1)≠0:=by simpa using ad
   rw[if_pos hc] at N;refine ba 2 Z ?_;refine W.ret (bz (bo (dI (bz (bo (QF.br trivial Z ?_))))));clear J I;show A.d (D.v (Value.int _ _))=A.d (D.v (Value.int _ _));congr 3;rw[gu j];unfold fN;grind
  have hc:cv x (level+1)=0:=by simpa using ad
  rw[if_neg (by simp[hc])] at N;refine ah (ca (qs (cQ 2 Z ?_)));refine W.cr [] ⟨k+1,?_⟩ ?_ Z ?_ ⟨rfl,rfl,rfl,rfl,rfl,rfl,trivial⟩ ?_ trivial Z;·exact⟨X,N⟩
  ·dsimp only;omega
  ·repeat' first | exact trivial | refine⟨bJ (by assumption) (by assumption),?_⟩
  repeat' exact trivial
 rw[hd] at N;simp only[dM] at N;refine an (bT (bR (bP (qs (ba 1 Z ?_)))));refine W.ret (QF.br trivial Z ?_);clear J I;show A.d (D.v (Value.int _ _))=A.d (D.v (Value.int _ _));congr 3;rw[gu j];unfold fN;grind
theorem vZ (j:JV):bq Tryz.prog 50 [.ag j.c] (.d (.v (.int .i64 (cv j 1)))) 0:=by have h:=Ce j 1 (by omega) (by omega);rw[jQ j] at h ⊢;refine bq.bZ (n:=5) (ts:=[2]) Tryz.func50 (by kernel_rfl) Z Tryz.ntmps50 Tryz.results50 Z Z fun C hC I=>?_;refine ae (aa (cG Z Z Z (pE Z (ab (qs (ae (aa (aZ 1 Z ?_))))))));refine pu (bm Z Z Z h Z) Z ?_;refine pE Z (ab (qs (W.ret (QF.br trivial Z ?_))));rfl
def oJ (o:Option JV):JV:=o.getD fH
theorem FR {j:JV} {key:ByteArray} (h:j.op≠6):fg j key=none:=by unfold fg;rw[if_neg h]
theorem x7 {j:JV} {key:ByteArray} {k:Nat} (h:j.op=6) (hi:(j.keys.findIdx? fun x=>decide (key=x))=some k):fg j key=j.kids[k]?:=by unfold fg;rw[if_pos h,hi]
theorem Cl {j:JV} {key:ByteArray} (hi:(j.keys.findIdx? fun x=>decide (key=x))=none):fg j key=none:=by unfold fg;rw[hi];simp
theorem Gf (j:JV) (key:ByteArray):bq Tryz.prog 96 [.ag j.c,.d (.v (.string key))] (.tup [.ag (oJ (fg j key)).c,.d (.v (.bool (fg j key).isSome))]) 0:=by
 rw[jQ j];refine bq.dQ aX (n:=31) (rs:=[.cell 4 46,.tmp 5]) Tryz.func96 (by kernel_rfl) Z Tryz.ntmps96 Tryz.results96 Z fun C hC U=>?_;refine ae (aa (cG Z Z Z (bK aX Z Z Z (pE Z (ab (qs (ae (aa (aZ 3 Z ?_)))))))));refine pu (bm Z Z Z (xr j.keys key) Z) Z ?_;refine pE Z (ab (qs ?_));iterate 2 refine ae ?_
 apply bL;(case hb=>rfl);·repeat' first | refine cc Z Z Z | refine bH Z Z ?_ | refine bC Z Z Z Z ?_ | refine pE Z ?_ | refine ab ?_ | (apply b8;(case hj=>rfl);(case hl=>rfl))
 refine qs (be Z (fun I=>?_) (fun I=>?_));·
  have M:fg j key=none:=by
   by_cases ho:j.op=6;·
    cases hi:(j.keys.findIdx? fun x=>decide (key=x)) with
    | none=>exact Cl hi
    | some k=>rw[x7 ho hi];rw[hi,show idx (some k)=(k:Int) from rfl] at I;simp[ho] at I ⊢;omega
   exact FR ho
  refine ae (aa (pu (build aX Z Z Z Z) Z ?_));try refine iy 25 Z Z Z ?_
  refine bl aX Z Z Z Z Z Z Z Z (pE Z (ab (qs (W.ret (bo (QV.br aX trivial Z ?_))))));rw[M];rfl
 obtain⟨k,y,N,O,M⟩:∃ (k:Nat) (y:JV),idx (j.keys.findIdx? fun x=>decide (key=x))=(k:Int)∧j.kids[k]? = some y∧fg j key=some y:=by
  by_cases ho:j.op=6;·
   cases hi:(j.keys.findIdx? fun x=>decide (key=x)) with
   | none=>rw[hi] at I;simp[idx] at I
   | some k=>
    rw[hi] at I;rw[show idx (some k)=(k:Int) from rfl] at I;have J:k < j.kids.length:=by simp[ho] at I;omega
    exact⟨k,j.kids[k],rfl,by simp[J],by rw[x7 ho hi];simp[J]⟩
  simp[ho] at I
 rw[N];refine ah (qs (ae (aa (aZ 3 Z ?_))));refine pu (indexAddr (l:=y.c) aX Z Z Z Z Z Z (Int.natCast_nonneg _) (bN O) Z) Z ?_;refine aZ 1 Z ?_;refine bl aX Z Z Z Z Z Z Z Z (pE Z (ab (qs (W.ret (QV.br aX trivial Z ?_)))));rw[M];rfl
theorem ns:bq Tryz.prog 53 [] (.d (.sl (jC.map Fm.c))) 0:=by refine bq.bZ (n:=14) (ts:=[0]) Tryz.func53 (by kernel_rfl) Z Tryz.ntmps53 Tryz.results53 Z Z fun C hC I=>?_;refine ba 1 Z ?_;refine ae (aa (pu (build aX Z Z Z Z) Z ?_));refine pu (build aX Z Z Z Z) Z ?_;refine pu (build aX Z Z Z Z) Z ?_;refine pu (build aX Z Z Z Z) Z ?_;refine pu (build aX Z Z Z Z) Z ?_;refine pu (build aX Z Z Z Z) Z ?_;refine pu (build aX Z Z Z Z) Z ?_;refine pu (build aX Z Z Z Z) Z ?_;refine pu (build aX Z Z Z Z) Z ?_;refine pu (build aX Z Z Z Z) Z ?_;refine pu (build aX Z Z Z Z) Z ?_;refine pu (build aX Z Z Z Z) Z ?_;refine pu (b9 aX Z Z Z Z Z Z Z Z Z) Z ?_;refine pE Z (ab (qs (W.ret (QF.br trivial Z ?_))));rfl
theorem tQ (fid:Nat) (caps:List A) (I:Still caps) (p:Fm→Bool) (hp:∀ x:Fm,bq Tryz.prog fid (.ag x.c::caps) (.d (.v (.bool (p x)))) 0) (l:List Fm) :
 bq Tryz.prog 52 [.d (.sl (l.map Fm.c)),.clo fid caps] (.d (.v (.int .i64 (idx (l.findIdx? p))))) 0:=by
 refine bq.bZ (n:=19) (ts:=[4]) Tryz.func52 (by kernel_rfl) Z Tryz.ntmps52 Tryz.results52 Z Z fun C hC X=>?_;refine ba 1 Z ?_;refine ae (ba 3 Z ?_);refine W.block (W.len (t:=0) Z Z (fun hlen=>?_));try simp only[List.length_map,Ex.bA] at hlen
 refine W.b7 (ι:={x:Nat // match x with | k=>k≤l.length∧cV p l k})
  (fun x=>match x.1 with | k=>[(8,.d (.v (.int .i64 ((k:Nat):Int))))]) [(0,_),(1,_),(7,_)]
  (fun x=>match x.1 with | k=>[]) [] [] 0 (fun x=>match x.1 with | k=>l.length - k)
  [] ⟨0,?_⟩ Z ?_ ⟨rfl,(by first | rfl | exact I.2),rfl,(by first | rfl | exact I.2),rfl,(by first | rfl | exact I.2),trivial⟩ ?_ trivial Z ?_
 ·exact⟨Nat.zero_le _,cV.zero⟩
 ·repeat' constructor
 ·repeat' exact trivial
 rintro⟨k,U,M⟩;show W _ _ _ _ _ ⟨[(8,.d (.v (.int .i64 ((k:Nat):Int)))),(0,_),(1,_),(7,_)],[],[],0⟩;refine ba 1 Z ?_;refine ae (cB (l:=l) (k:=k) Z (by simp[Ex.bA,bk]) U (fun x N hd O=>?_) (fun he hd=>?_));·
  refine ah (qs (ae (W.block (ba 2 Z ?_))));refine ae (aa (aZ 3 Z ?_));refine pu (indexAddr aX Z Z Z Z Z Z (Int.natCast_nonneg _) (bN (by assumption)) Z) Z ?_;refine aZ 1 Z ?_;refine pu (bm Z Z (by rw[List.map_append,I.1 _ 3];rfl) (hp x) Z) Z ?_;refine ab (qs (be Z (fun J=>?_) (fun J=>?_)));·
   refine ba 2 Z ?_;refine W.ret (bz (bo (dI (bz (bo (QF.br trivial Z ?_))))));simp only[norm,bW];rw[M.found N J];rfl
  refine ah (ca (qs (cQ 2 Z ?_)));refine W.cr [] ⟨k+1,?_⟩ ?_ Z ?_ ⟨rfl,(by first | rfl | exact I.2),rfl,(by first | rfl | exact I.2),rfl,(by first | rfl | exact I.2),trivial⟩ ?_ trivial Z;·exact⟨O,M.step N J⟩
  ·dsimp only;omega
  ·repeat' first | exact trivial | refine⟨bJ (by assumption) (by assumption),?_⟩
  repeat' exact trivial
 refine an (bT (bR (bP (qs (ba 1 Z ?_)))));refine W.ret (QF.br trivial Z ?_);simp only[norm,bW];rw[M.end_ he];rfl
theorem Gw (ph:ByteArray) (f:Fm):bq Tryz.prog 54 [.ag f.c,.row [.d (.v (.string ph))]] (.d (.v (.bool (decide (f.ph=ph))))) 0:=by refine bq.bZ (n:=8) (ts:=[3]) Tryz.func54 (by kernel_rfl) Z Tryz.ntmps54 Tryz.results54 Z Z fun C hC I=>?_;refine ae (aa (cG Z Z Z (pE Z (ab (qs (ba 5 Z ?_))))));refine W.ret (QF.br trivial Z ?_);rfl
theorem BX (e:Ev) (f:Fm):bq Tryz.prog 88 [.ag f.c,.row (e.c.map A.d)] (.d (.v (.bool (decide (f.kind=e.kind))))) 0:=by refine bq.bZ (n:=9) (ts:=[3]) Tryz.func88 (by kernel_rfl) Z Tryz.ntmps88 Tryz.results88 Z Z fun C hC I=>?_;refine ae (aa (cG Z Z Z (pE Z (ab (qs (ba 6 Z ?_))))));refine W.ret (QF.br trivial Z ?_);rfl
theorem uS (f:Fm) (on:Bool):bq Tryz.prog 58 [.ag f.c,.d (.v (.bool on))] (.d (.sl ((dA f on).map sc))) 0:=by
 refine bq.bZ (n:=47) (ts:=[4]) Tryz.func58 (by kernel_rfl) Z Tryz.ntmps58 Tryz.results58 Z Z fun C hC U=>?_;refine ae (aa (cG Z Z Z (pE Z (ab (qs (ae (aa (pu (FB aX Z Z Z Z Z Z Z Z Z) Z ?_))))))));refine pE Z (ab (qs (ae (ba 2 Z ?_))));refine be Z (fun O=>?_) (fun O=>?_);·
  refine aa (pE Z (pu (b9 aX Z Z Z Z Z Z Z Z Z) Z ?_));refine yy aX Z Z Z Z Z Z Z Z Z Z Z Z (jk Z) (Nat.le_of_ble_eq_true Z) ?_;refine pE Z (ab (qs (ae (aa (pE Z (pu (b9 aX Z Z Z Z Z Z Z Z Z) Z ?_))))));refine ib aX Z Z Z Z Z Z Z Z Z Z Z Z Z Z ?_;refine pE Z (ab (qs (ae (ba 2 Z ?_))));refine W.block (ba 2 Z ?_);refine be Z (fun J=>?_) (fun J=>?_);·
   refine ae (aa (pE Z (pu (b9 aX Z Z Z Z Z Z Z Z Z) Z ?_)));refine ib aX Z Z Z Z Z Z Z Z Z Z Z Z Z Z ?_;refine pE Z (ab (qs (W.ret (bz (bo (QF.br trivial Z ?_))))));simp only[norm,bW,dA];simp_all[pP,pN,cC,eT,cU,cP,ij,ct,fW,lQ,jb];try exact if_neg (fun h=>by have:=I h.1;rw[this] at h;cases h.2)
  refine ba 2 Z ?_;refine be Z (fun M=>?_) (fun M=>?_);·
   refine ae (aa (pE Z (pu (b9 aX Z Z Z Z Z Z Z Z Z) Z ?_)));refine ib aX Z Z Z Z Z Z Z Z Z Z Z Z Z Z ?_;refine pE Z (ab (qs (W.ret (bz (bo (QF.br trivial Z ?_))))));simp only[norm,bW,dA];simp_all[pP,pN,cC,eT,cU,cP,ij,ct,fW,lQ,jb];try exact if_neg (fun h=>by have:=I h.1;rw[this] at h;cases h.2)
  refine ah (ca (qs (ae (ba 3 Z ?_))));refine be Z (fun N=>?_) (fun N=>?_);·
   refine aa (aZ 3 Z ?_);refine pu (b9 aX Z Z Z Z Z Z Z Z Z) Z ?_;refine ib aX Z Z Z Z Z Z Z Z Z Z Z Z Z Z ?_;refine pE Z (ab (qs ?_));iterate 2 refine ae ?_
   apply bL;(case hb=>rfl);·repeat' first | refine cc Z Z Z | refine bH Z Z ?_ | refine bC Z Z Z Z ?_ | refine pE Z ?_ | refine ab ?_ | (apply b8;(case hj=>rfl);(case hl=>rfl))
   refine qs (be Z (fun I=>?_) (fun I=>?_));·
    refine aa (aZ 3 Z ?_);refine pu (b9 aX Z Z Z Z Z Z Z Z Z) Z ?_;refine ib aX Z Z Z Z Z Z Z Z Z Z Z Z Z Z ?_;refine pE Z (ab (qs (ba 2 Z ?_)));refine W.ret (QF.br trivial Z ?_);simp only[norm,bW,dA];simp_all[pP,pN,cC,eT,cU,cP,ij,ct,fW,lQ,jb];try exact if_neg (fun h=>by have:=I h.1;rw[this] at h;cases h.2)
   refine ah (qs (ba 2 Z ?_));refine W.ret (QF.br trivial Z ?_);simp only[norm,bW,dA];simp_all[pP,pN,cC,eT,cU,cP,ij,ct,fW,lQ,jb];try exact if_neg (fun h=>by have:=I h.1;rw[this] at h;cases h.2)
  refine ah (qs ?_);iterate 2 refine ae ?_
  apply bL;(case hb=>rfl);·repeat' first | refine cc Z Z Z | refine bH Z Z ?_ | refine bC Z Z Z Z ?_ | refine pE Z ?_ | refine ab ?_ | (apply b8;(case hj=>rfl);(case hl=>rfl))
  refine qs (be Z (fun I=>?_) (fun I=>?_));·
   refine aa (aZ 3 Z ?_);refine pu (b9 aX Z Z Z Z Z Z Z Z Z) Z ?_;refine ib aX Z Z Z Z Z Z Z Z Z Z Z Z Z Z ?_;refine pE Z (ab (qs (ba 2 Z ?_)));refine W.ret (QF.br trivial Z ?_);simp only[norm,bW,dA];simp_all[pP,pN,cC,eT,cU,cP,ij,ct,fW,lQ,jb];try exact if_neg (fun h=>by have:=I h.1;rw[this] at h;cases h.2)
  refine ah (qs (ba 2 Z ?_));refine W.ret (QF.br trivial Z ?_);simp only[norm,bW,dA];simp_all[pP,pN,cC,eT,cU,cP,ij,ct,fW,lQ,jb];try exact if_neg (fun h=>by have:=I h.1;rw[this] at h;cases h.2)
 refine ah (qs (ae (aa (pE Z (pu (b9 aX Z Z Z Z Z Z Z Z Z) Z ?_)))));refine yy aX Z Z Z Z Z Z Z Z Z Z Z Z (jk Z) (Nat.le_of_ble_eq_true Z) ?_;refine pE Z (ab (qs (ae (ba 2 Z ?_))));refine W.block (ba 2 Z ?_);refine be Z (fun J=>?_) (fun J=>?_);·
  refine ae (aa (pE Z (pu (b9 aX Z Z Z Z Z Z Z Z Z) Z ?_)));refine ib aX Z Z Z Z Z Z Z Z Z Z Z Z Z Z ?_;refine pE Z (ab (qs (W.ret (bz (bo (QF.br trivial Z ?_))))));simp only[norm,bW,dA];simp_all[pP,pN,cC,eT,cU,cP,ij,ct,fW,lQ,jb];try exact if_neg (fun h=>by have:=I h.1;rw[this] at h;cases h.2)
 refine ba 2 Z ?_;refine be Z (fun M=>?_) (fun M=>?_);·
  refine ae (aa (pE Z (pu (b9 aX Z Z Z Z Z Z Z Z Z) Z ?_)));refine ib aX Z Z Z Z Z Z Z Z Z Z Z Z Z Z ?_;refine pE Z (ab (qs (W.ret (bz (bo (QF.br trivial Z ?_))))));simp only[norm,bW,dA];simp_all[pP,pN,cC,eT,cU,cP,ij,ct,fW,lQ,jb];try exact if_neg (fun h=>by have:=I h.1;rw[this] at h;cases h.2)
 refine ah (ca (qs (ae (ba 3 Z ?_))));refine be Z (fun N=>?_) (fun N=>?_);·
  refine aa (aZ 3 Z ?_);refine pu (b9 aX Z Z Z Z Z Z Z Z Z) Z ?_;refine ib aX Z Z Z Z Z Z Z Z Z Z Z Z Z Z ?_;refine pE Z (ab (qs ?_));iterate 2 refine ae ?_
  apply bL;(case hb=>rfl);·repeat' first | refine cc Z Z Z | refine bH Z Z ?_ | refine bC Z Z Z Z ?_ | refine pE Z ?_ | refine ab ?_ | (apply b8;(case hj=>rfl);(case hl=>rfl))
  refine qs (be Z (fun I=>?_) (fun I=>?_));·
   refine aa (aZ 3 Z ?_);refine pu (b9 aX Z Z Z Z Z Z Z Z Z) Z ?_;refine ib aX Z Z Z Z Z Z Z Z Z Z Z Z Z Z ?_;refine pE Z (ab (qs (ba 2 Z ?_)));refine W.ret (QF.br trivial Z ?_);simp only[norm,bW,dA];simp_all[pP,pN,cC,eT,cU,cP,ij,ct,fW,lQ,jb];try exact if_neg (fun h=>by have:=I h.1;rw[this] at h;cases h.2)
  refine ah (qs (ba 2 Z ?_));refine W.ret (QF.br trivial Z ?_);simp only[norm,bW,dA];simp_all[pP,pN,cC,eT,cU,cP,ij,ct,fW,lQ,jb];try exact if_neg (fun h=>by have:=I h.1;rw[this] at h;cases h.2)
 refine ah (qs ?_);iterate 2 refine ae ?_
 apply bL;(case hb=>rfl);·repeat' first | refine cc Z Z Z | refine bH Z Z ?_ | refine bC Z Z Z Z ?_ | refine pE Z ?_ | refine ab ?_ | (apply b8;(case hj=>rfl);(case hl=>rfl))
 refine qs (be Z (fun I=>?_) (fun I=>?_));·
  refine aa (aZ 3 Z ?_);refine pu (b9 aX Z Z Z Z Z Z Z Z Z) Z ?_;refine ib aX Z Z Z Z Z Z Z Z Z Z Z Z Z Z ?_;refine pE Z (ab (qs (ba 2 Z ?_)));refine W.ret (QF.br trivial Z ?_);simp only[norm,bW,dA];simp_all[pP,pN,cC,eT,cU,cP,ij,ct,fW,lQ,jb];try exact if_neg (fun h=>by have:=I h.1;rw[this] at h;cases h.2)
 refine ah (qs (ba 2 Z ?_));refine W.ret (QF.br trivial Z ?_);simp only[norm,bW,dA];simp_all[pP,pN,cC,eT,cU,cP,ij,ct,fW,lQ,jb];try exact if_neg (fun h=>by have:=I h.1;rw[this] at h;cases h.2)
def Cr (caps:List A):Prop:=(∀ bx k,caps.map (conv bx (k+3))=caps)∧kI caps=true
theorem AF (fid:Nat) (caps:List A) (I:Cr caps) (p:ByteArray→Bool) (hp:∀ x:ByteArray,bq Tryz.prog fid (.d (.v (.string x))::caps) (.d (.v (.bool (p x)))) 0) (l:List ByteArray) :
 bq Tryz.prog 148 [.d (.sl (l.map sc)),.clo fid caps] (.d (.v (.int .i64 (idx (l.findIdx? p))))) 0:=by
 refine bq.bZ (n:=19) (ts:=[4]) Tryz.func148 (by kernel_rfl) Z Tryz.ntmps148 Tryz.results148 Z Z fun C hC X=>?_;refine ba 1 Z ?_;refine ae (ba 3 Z ?_);refine W.block (W.len (t:=0) Z Z (fun hlen=>?_));try simp only[List.length_map,Ex.bA] at hlen
 refine W.b7 (ι:={x:Nat // match x with | k=>k≤l.length∧cV p l k})
  (fun x=>match x.1 with | k=>[(8,.d (.v (.int .i64 ((k:Nat):Int))))]) [(0,_),(1,_),(7,_)]
  (fun x=>match x.1 with | k=>[]) [] [] 0 (fun x=>match x.1 with | k=>l.length - k)
  [] ⟨0,?_⟩ Z ?_ ⟨rfl,(by first | rfl | exact I.2),rfl,(by first | rfl | exact I.2),rfl,(by first | rfl | exact I.2),trivial⟩ ?_ trivial Z ?_
 ·exact⟨Nat.zero_le _,cV.zero⟩
 ·repeat' constructor
 ·repeat' exact trivial
 rintro⟨k,U,M⟩;show W _ _ _ _ _ ⟨[(8,.d (.v (.int .i64 ((k:Nat):Int)))),(0,_),(1,_),(7,_)],[],[],0⟩;refine ba 1 Z ?_;refine ae (cB (l:=l) (k:=k) Z (by simp[Ex.bA,bk]) U (fun x N hd O=>?_) (fun he hd=>?_));·
  refine ah (qs (ae (W.block (ba 2 Z ?_))));refine ae (aa (aZ 3 Z ?_));refine pu (indexAddr aX Z Z Z Z Z Z (Int.natCast_nonneg _) (bN (by assumption)) Z) Z ?_;refine aZ 1 Z ?_;refine pu (bm Z Z (by rw[List.map_append,I.1 _ 2];rfl) (hp x) Z) Z ?_;refine ab (qs (be Z (fun J=>?_) (fun J=>?_)));·
   refine ba 2 Z ?_;refine W.ret (bz (bo (dI (bz (bo (QF.br trivial Z ?_))))));simp only[norm,bW];rw[M.found N J];rfl
  refine ah (ca (qs (cQ 2 Z ?_)));refine W.cr [] ⟨k+1,?_⟩ ?_ Z ?_ ⟨rfl,(by first | rfl | exact I.2),rfl,(by first | rfl | exact I.2),rfl,(by first | rfl | exact I.2),trivial⟩ ?_ trivial Z;·exact⟨O,M.step N J⟩
  ·dsimp only;omega
  ·repeat' first | exact trivial | refine⟨bJ (by assumption) (by assumption),?_⟩
  repeat' exact trivial
 refine an (bT (bR (bP (qs (ba 1 Z ?_)))));refine W.ret (QF.br trivial Z ?_);simp only[norm,bW];rw[M.end_ he];rfl
theorem uw (fid:Nat) (caps:List A) (I:Cr caps) (p:ByteArray→Bool) (hp:∀ x:ByteArray,bq Tryz.prog fid (.d (.v (.string x))::caps) (.d (.v (.bool (p x)))) 0) (l:List ByteArray) :
 bq Tryz.prog 97 [.d (.sl (l.map sc)),.clo fid caps] (.d (.v (.bool (l.any p)))) 0:=by
 refine bq.bZ (n:=9) (ts:=[4]) Tryz.func97 (by kernel_rfl) Z Tryz.ntmps97 Tryz.results97 Z Z fun C hC J=>?_;refine ba 1 Z ?_;refine ae (aa (aZ 2 Z ?_));refine pu (bm (args:=[.d (.sl (l.map sc)),.clo fid caps]) Z Z (by simp[conv,I.1 _ 1]) (AF fid caps I p hp l) Z) Z ?_;refine aZ 2 Z ?_;refine ab (qs (W.ret (QF.br trivial Z ?_)));simp only[norm,bW];rw[←gQ]
abbrev obj (j:JV) (bad:Bool):List A:=[.d (ci j.op),.d (ci j.n),.d (cs j.s),.d (.sl (j.keys.map sc)),.d (.sl j.kc),.d (.v (.bool bad))]
theorem EM (j:JV) (bad:Bool) (k:ByteArray):bq Tryz.prog 98 [.d (.v (.string k)),.row [.row (obj j bad)]] (.d (.v (.bool (!j.keys.any fun x=>decide (k=x))))) 0:=by refine bq.bZ (n:=12) (ts:=[3]) Tryz.func98 (by kernel_rfl) Z Tryz.ntmps98 Tryz.results98 Z Z fun C hC I=>?_;refine ba 1 Z ?_;refine ae (aa (aZ 6 Z ?_));refine pu (bm Z Z Z (zi ..) Z) Z ?_;refine aZ 2 Z ?_;refine ab (qs (W.ret (QF.br trivial Z ?_)));rfl
theorem jM (j:JV) (bad:Bool) (key:ByteArray) (op:Int):cm Tryz.prog 55 [.ptr 0 0,.d (.v (.string key)),.d (.v (.int .i64 op))] [obj j bad] 0 (.ag (cH j key op).c) [obj j (bad || fK j key op)] 0:=by
 refine cm.dQ aX (n:=31) (rs:=[.cell 6 46]) Tryz.func55 (by kernel_rfl) Z Tryz.ntmps55 Tryz.results55 Z Z fun C hC M=>?_;refine ae (aa (bK aX Z Z Z (ab (qs (ae (aa (aZ 5 Z ?_)))))));refine pu (bm Z Z Z (Gf j key) Z) Z ?_;refine aZ 3 Z ?_;refine bK aX Z Z Z (bl aX Z Z Z Z Z Z Z Z (pE Z (ab (qs ?_))));iterate 2 refine ae ?_
 apply bL;(case hb=>rfl);·repeat' first | refine cc Z Z Z | refine bH Z Z ?_ | refine bC Z Z Z Z ?_ | refine pE Z ?_ | refine ab ?_ | (apply b8;(case hj=>rfl);(case hl=>rfl))
 refine qs (be Z (fun I=>?_) (fun I=>?_));·
  obtain⟨hb,J⟩:=DJ I;rw[hb,J,Bool.or_true];refine ae (aa (aZ 3 Z ?_));refine bl aX Z Z Z Z Z Z Z Z (ab (qs (ae (aa (pu (build aX Z Z Z Z) Z ?_)))));try refine iy 29 Z Z Z ?_
  refine bl aX Z Z Z Z Z Z Z Z (ab (qs (W.ret (bo (ak aX [] trivial Z Z Z Z ?_ ?_)))));·exact⟨rfl,trivial⟩
  rfl
 obtain⟨hb,J⟩:=Gs I;rw[hb,J,Bool.or_false];refine ah (qs (ae (aa (aZ 1 Z ?_))));refine bl aX Z Z Z Z Z Z Z Z (ab (qs (W.ret (ak aX [] trivial Z Z Z Z ?_ ?_))));·exact⟨rfl,trivial⟩
 rfl
theorem tI (j:JV) (bad:Bool):cm Tryz.prog 51 [.ptr 0 0] [obj j bad] 0 (.tup [.d (ci (cH j cU 3).n),.d (cs (cH j eT 4).s)]) [obj j (cS j bad)] 0:=by
 refine cm.dQ aX (n:=23) (rs:=[.tmp 2,.tmp 3]) Tryz.func51 (by kernel_rfl) Z Tryz.ntmps51 Tryz.results51 Z Z fun C hC I=>?_;refine ba 2 Z ?_;refine ae (aa (pE Z (bG [0] [] Z Z Z Z Z ((jM j bad cU 3)) Z Z (by rfl) (by rfl) Z Z Z Z ?_)));refine aZ 2 Z ?_;refine ab (qs (ae (aa (aZ 6 Z ?_))));refine nl Z Z (fun g13=>?_) (fun g13=>?_);·
  have hb:cS j bad=(true || fK j eT 4):=by unfold cS;rw[show(bad || fK j cU 3)=true from g13];rfl
  rw[hb];iterate 2 refine bC Z Z Z Z ?_
  refine aZ 3 Z ?_;refine bl aX Z Z Z Z Z Z Z Z (ab (qs (ae (aa (aZ 2 Z ?_)))));refine bG [0] [] Z Z Z Z Z ((jM j _ eT 4)) Z Z (by rfl) (by rfl) Z Z Z Z ?_;refine aZ 3 Z ?_;refine ab (qs (W.ret (ak aX [] trivial Z Z Z Z ?_ ?_)));·exact⟨rfl,trivial⟩
  rfl
 have hb:cS j bad=(decide ((cH j cU 3).n < 0) || fK j eT 4):=by unfold cS;rw[show(bad || fK j cU 3)=false from g13];rfl
 rw[hb];refine bH Z Z (pE Z (bH Z Z (aZ 4 Z ?_)));refine bl aX Z Z Z Z Z Z Z Z (ab (qs (ae (aa (aZ 2 Z ?_)))));refine bG [0] [] Z Z Z Z Z ((jM j _ eT 4)) Z Z (by rfl) (by rfl) Z Z Z Z ?_;refine aZ 3 Z ?_;refine ab (qs (W.ret (ak aX [] trivial Z Z Z Z ?_ ?_)));·exact⟨rfl,trivial⟩
 rfl
theorem tT (j:JV) (bad:Bool) (l:List ByteArray):bq Tryz.prog 57 [.row (obj j bad),.d (.sl (l.map sc))] (.d (.v (.bool (kj j l)))) 0:=by
 refine bq.bZ (n:=20) (ts:=[4]) Tryz.func57 (by kernel_rfl) Z Tryz.ntmps57 Tryz.results57 Z Z fun C hC I=>?_;refine ae (aa (cG Z Z Z (pE Z (ab (qs (ae ?_))))));apply bL;(case hb=>rfl);·repeat' first | refine cc Z Z Z | refine bH Z Z ?_ | refine bC Z Z Z Z ?_ | refine pE Z ?_ | refine pu (bm Z Z Z (uw _ [.row [.row (obj j bad)]] ⟨fun _ _=>rfl,rfl⟩ _ (EM j bad) l) Z) Z ?_ | refine ab ?_ | (apply b8;(case hj=>rfl);(case hl=>rfl))
 refine qs (W.ret (QF.br trivial Z ?_));show A.d (.v (.bool _))=A.d (.v (.bool _));unfold kj;rw[List.length_map,List.length_map];congr 3;simp only[cond_eq_ite];by_cases h:j.keys.length=l.length <;> simp[h] <;> omega
theorem yB {l:List JV} {k:Nat} {x:JV} (h:l[k]? = some x):jh (l.take (k+1))=(jh (l.take k) || !decide (x.op=4)):=by unfold jh;rw[List.take_add_one,h];simp
theorem BI (j:JV) (bad:Bool) (hs:(cH j ct 5).kids.length≤1000000000):cm Tryz.prog 56 [.ptr 0 0] [obj j bad] 0 (.d (.sl ((xX j).map sc))) [obj j ((bad || fK j ct 5) || jh (cH j ct 5).kids)] 0:=by
 refine cm.dQ aX (n:=33) (rs:=[.tmp 2]) Tryz.func56 (by kernel_rfl) rfl Tryz.ntmps56 Tryz.results56 rfl rfl fun C hC hG=>?_
 refine ba 1 rfl ?_
 refine ba 1 rfl ?_
 iterate 2 refine ae ?_
 refine aa (pE rfl (bG [0] [] rfl rfl rfl rfl rfl ((jM j bad ct 5)) rfl rfl (by rfl) (by rfl) rfl rfl rfl rfl ?_))
 refine aZ 3 rfl ?_
 refine ab (qs (W.block (mz (d:=3) rfl rfl ?_)))
 refine W.len (t:=8) rfl rfl (fun hlen=>?_)
 try simp only[List.length_map,Ex.bA] at hlen
 refine W.b7 (ι:={x:Nat×Bool×List ByteArray // match x with | (k,b,out)=>k≤(cH j ct 5).kids.length∧out=((cH j ct 5).kids.take k).map JV.s∧b=((bad || fK j ct 5) || jh ((cH j ct 5).kids.take k))})
  (fun x=>match x.1 with | (k,b,out)=>[(0,.ptr 0 0),(3,.own 1 (out.map sc)),(10,.d (.v (.int .i64 ((k:Nat):Int))))]) [(8,_),(9,_)]
  (fun x=>match x.1 with | (k,b,out)=>[(0,obj j b)]) [] [1] 2 (fun x=>match x.1 with | (k,b,out)=>(cH j ct 5).kids.length - k)
  [0,2] ⟨(0,bad || fK j ct 5,[]),?_⟩ rfl ?_ ⟨rfl,rfl,rfl,rfl,trivial⟩ ?_ trivial rfl ?_
 · exact⟨Nat.zero_le _,rfl,by simp[jh]⟩
 · repeat' first | exact trivial | refine⟨rfl,?_⟩
 · repeat' first | exact trivial | refine⟨rfl,?_⟩
 rintro⟨⟨k,b,out⟩,hk,hout,hI⟩
 show W _ _ _ _ _ ⟨[(0,.ptr 0 0),(3,.own 1 (out.map sc)),(10,.d (.v (.int .i64 ((k:Nat):Int)))),(8,_),(9,_)],[(0,obj j b)],[1],2⟩
 have hkm:(cH j ct 5).kids.length≤maxLen:=by rw[←JV.bA];exact hlen
 have hol:out.length≤(cH j ct 5).kids.length:=by rw[hout,List.length_map,List.length_take];exact Nat.min_le_right _ _
 refine ba 1 rfl ?_
 refine ae (cB (l:=(cH j ct 5).kids) (k:=k) rfl (by simp[JV.bA]) hk (fun x hx hd hlt=>?_) (fun he hd=>?_))
 ·
  refine ah (qs (ae (W.block (ae (aa (pu (indexAddr (l:=x.c) aX rfl rfl rfl rfl rfl rfl (Int.natCast_nonneg _) (JV.CF hx) rfl) rfl ?_))))))
  refine aZ 1 rfl ?_
  refine bK aX rfl rfl rfl (bl aX rfl rfl rfl rfl rfl rfl rfl rfl (ab (qs (ae (aa (aZ 6 rfl ?_))))))
  refine nl rfl rfl (fun g19=>?_) (fun g19=>?_)
  ·
   let nb:Bool:=true
   iterate 3 refine bC rfl rfl rfl rfl ?_
   refine aZ 3 rfl ?_
   refine bl aX rfl rfl rfl rfl rfl rfl rfl rfl (ab (qs (aa (aZ 3 rfl ?_))))
   refine pu (b9 aX rfl rfl rfl rfl rfl rfl rfl rfl rfl) rfl ?_
   refine fD (a:=x.s) aX rfl rfl rfl rfl rfl rfl rfl rfl rfl rfl (fun _=>rfl) (by show(out.length+1)*16≤_;omega) ?_
   refine pE rfl (ab (ca (qs (cQ 2 rfl ?_))))
   refine W.cr [0,3] ⟨(k+1,nb,out++[x.s]),?_⟩ ?_ rfl ?_ ⟨rfl,rfl,rfl,rfl,trivial⟩ ?_ trivial rfl
   · exact⟨hlt,by rw[List.take_add_one,hx,List.map_append,hout];rfl,by rw[yB hx,←Bool.or_assoc,←hI,g19];rfl⟩
   · dsimp only;omega
   · repeat' first | exact trivial | refine⟨rfl,?_⟩ | refine⟨bJ (by assumption) (by assumption),?_⟩
   repeat' first | exact trivial | refine⟨rfl,?_⟩
  let nb:Bool:=!decide (x.op=4)
  refine bH rfl rfl (pE rfl (bH rfl rfl (aZ 1 rfl ?_)))
  refine bH rfl rfl (aZ 4 rfl ?_)
  refine bl aX rfl rfl rfl rfl rfl rfl rfl rfl (ab (qs (aa (aZ 3 rfl ?_))))
  refine pu (b9 aX rfl rfl rfl rfl rfl rfl rfl rfl rfl) rfl ?_
  refine fD (a:=x.s) aX rfl rfl rfl rfl rfl rfl rfl rfl rfl rfl (fun _=>rfl) (by show(out.length+1)*16≤_;omega) ?_
  refine pE rfl (ab (ca (qs (cQ 2 rfl ?_))))
  refine W.cr [0,3] ⟨(k+1,nb,out++[x.s]),?_⟩ ?_ rfl ?_ ⟨rfl,rfl,rfl,rfl,trivial⟩ ?_ trivial rfl
  · exact⟨hlt,by rw[List.take_add_one,hx,List.map_append,hout];rfl,by rw[yB hx,←Bool.or_assoc,←hI,g19];rfl⟩
  · dsimp only;omega
  · repeat' first | exact trivial | refine⟨rfl,?_⟩ | refine⟨bJ (by assumption) (by assumption),?_⟩
  repeat' first | exact trivial | refine⟨rfl,?_⟩
 rw[he,List.take_length] at hI;rw[←hI]
 refine an (bT (bR (bP (qs (ba 2 rfl ?_)))))
 refine W.ret (ak aX [] trivial rfl rfl rfl rfl ?_ ?_)
 · exact⟨rfl,trivial⟩
 rw[hout,he,List.take_length];rfl
abbrev qC:List A:=[.d (ci 0),.d (ci 0),.d (cs (B #[])),.d (ci 0),.d (ci 0),.d (.v (.slice none 0 0))]
abbrev Jo (j:JV):Nat→Bool
 | 0=>cS j (dm j)
 | _+1=>fF j (cS j (dm j))
abbrev xo (j:JV) (f:Fm) (k:Nat):List (Nat×List A):=[(2,obj j (Jo j k)),(5,f.c.map A.d),(4,[.d (cs (cH j eT 4).s)]),(1,qC),(0,j.c.map A.d)]
abbrev lC (j:JV) (f:Fm):jK:=⟨xo j f,fun k=>(6,qC)::xo j f k,fun _=>[],fun k=>7+k,fun k=>[0,1,2,3,4,5,7+k]++(List.range k).map (7+·),6,qC,[3],6,fun _=>False⟩
theorem zp {ph:ByteArray} (h:idx (jC.findIdx? fun f=>decide (f.ph=ph)) < 0):oF ph=none:=by
 unfold oF
 cases hi:jC.findIdx? fun f=>decide (f.ph=ph) with
 | none=>rfl
 | some i=>rw[hi] at h;simp[idx] at h;omega
theorem y9 {ph:ByteArray} (h:¬ idx (jC.findIdx? fun f=>decide (f.ph=ph)) < 0):∃ (i:Nat) (f:Fm),idx (jC.findIdx? fun f=>decide (f.ph=ph))=(i:Int)∧jC[i]? = some f∧oF ph=some f:=by
 cases hi:jC.findIdx? fun f=>decide (f.ph=ph) with
 | none=>rw[hi] at h;simp[idx] at h
 | some i=>obtain⟨hl,_⟩:=List.findIdx?_eq_some_iff_getElem.1 hi;refine⟨i,jC[i],rfl,by simp[hl],?_⟩;unfold oF;rw[hi];simp[hl]
set_option maxHeartbeats 1000000 in
theorem Eu (j:JV) (hs:(cH j ct 5).kids.length≤1000000000):bq Tryz.prog 19 [.ag j.c] (.tup [.d (ci (cE j).1),.ag (cE j).2.1.c,.d (ci (cE j).2.2)]) 0:=by
 refine bq.dQ aX (n:=114) (rs:=[.tmp 2,.cell 3 50,.tmp 4]) Tryz.func19 (by kernel_rfl) Z Tryz.ntmps19 Tryz.results19 Z fun C hC hG=>?_;refine ae (aa (cG Z Z Z (pE Z (bK aX Z Z Z (pE Z (ab (qs ?_)))))));iterate 2 refine ae ?_
 refine aa (aZ 1 Z ?_);refine pu (bm Z Z Z (vZ j) Z) Z ?_;refine pE Z (ab (qs (ba 2 Z ?_)));refine be Z (fun ad=>?_) (fun ad=>?_);·
  have J:cE j=(0,qW,cv j 1):=by unfold cE;rw[if_pos (by simpa using ad)]
  refine ae (aa (pu (ld (build aX Z Z Z Z) Z) Z ?_));refine aZ 2 Z ?_;refine bl aX Z Z Z Z Z Z Z Z (pE Z (ab (qs (W.ret (bo (QV.br aX trivial Z ?_))))));rw[J];rfl
 have a1:cv j 1=0:=by simpa using ad
 refine ah (qs (ae (aa (aZ 4 Z ?_))));refine pu (build aX Z Z Z Z) Z ?_;refine cG Z Z Z (pE Z (ab (qs (ae (aa (pE Z (bG [2] [] Z Z Z Z Z ((tI j (dm j))) Z Z (by rfl) (by rfl) Z Z Z Z ?_)))))));refine aZ 3 Z ?_;refine bK aX Z Z Z (pE Z (bl aX Z Z Z Z Z Z Z Z (ab (qs (ae (aa (pu (bm Z Z Z (ns ..) Z) Z ?_)))))));refine pE Z (pu (bm Z Z Z (tQ _ _ ⟨fun _ _=>rfl,rfl⟩ _ (Gw (cH j eT 4).s) jC) Z) Z ?_);refine pE Z (ab (qs ?_));iterate 2 refine ae ?_
 apply bL;(case hb=>rfl);·
  refine aZ 5 Z ?_;apply fI;(case hj=>rfl);(case hl=>rfl);·
   intro a7;iterate 2 refine bC Z Z Z Z ?_
   refine pE Z (ab (cc Z Z Z))
  intro a7;refine bH Z Z (pE Z (bH Z Z (aZ 2 Z ?_)));refine ab (cc Z Z Z)
 refine qs (be Z (fun I=>?_) (fun I=>?_));·
  have J:cE j=(0,qW,10):=by
   unfold cE;rw[if_neg (by rw[a1];simp)]
   cases hb:cS j (dm j) with
   | true=>rfl
   | false=>rw[hb] at I;rw[zp (by simpa using I)];rfl
  refine ae (aa (pu (ld (build aX Z Z Z Z) Z) Z ?_));refine pE Z (bl aX Z Z Z Z Z Z Z Z (pE Z (ab (qs (W.ret (bo (QV.br aX trivial Z ?_)))))));rw[J];rfl
 have a6:cS j (dm j)=false:=by
  cases hb:cS j (dm j) with
  | true=>rw[hb] at I;cases I
  | false=>rfl
 obtain⟨i,f,hi,hf,a8⟩:=y9 (ph:=(cH j eT 4).s) (by rw[a6] at I;simpa using I);have hE:cE j=if (bif Ek j f (cS j (dm j)) then true else !kj j (dA f (iM j f)))=true then (0,qW,10) else if dN (oR j f)≠0 then (0,qW,dN (oR j f)) else ((cH j cU 3).n,oR j f,0):=by unfold cE;rw[if_neg (by rw[a1];simp),if_neg (by rw[a6];simp),a8]
 rw[hi];refine ah (qs (ae (aa (pu (bm Z Z Z (ns ..) Z) Z ?_))));refine pE Z (pu (indexAddr (l:=f.c) aX Z Z Z Z Z Z (Int.natCast_nonneg _) (bN hf) Z) Z ?_);refine aZ 1 Z ?_;refine bK aX Z Z Z (bl aX Z Z Z Z Z Z Z Z (ab (qs (ae (W.nT aX (lC j f) false 7 (by kernel_rfl) (by kernel_rfl) Z Z (fun _ _ h=>h.elim) ?hok (nW.le (f':=xo j f 0) ⟨rfl,rfl,rfl,rfl,rfl,trivial⟩) Z Z ?hcd)))));case hok=>exact fun _=>⟨by repeat' (first | exact trivial | exact Z | refine And.intro ?_ ?_),by repeat' (first | exact trivial | exact Z | refine And.intro ?_ ?_)⟩
 refine' vd ?p0 Z Z Z (by kernel_rfl) Z ?h0;case p0=>refine⟨?_,?_,?_,?_⟩ <;> intro M <;> first | (refine⟨ev aX Z,?_⟩;intro _;rfl) | exact(bb M (by kernel_rfl)).elim
 case' h0=>skip
 refine' vd ?p1 Z Z Z (by kernel_rfl) Z ?h1;case p1=>refine⟨?_,?_,?_,?_⟩ <;> intro M <;> first | (refine⟨ev aX Z,?_⟩;intro _;rfl) | exact(bb M (by kernel_rfl)).elim
 case' h1=>skip
 refine' vd ?p2 Z Z Z (by kernel_rfl) Z ?h2;case p2=>refine⟨?_,?_,?_,?_⟩ <;> intro M <;> first | (refine⟨ev aX Z,?_⟩;intro _;rfl) | exact(bb M (by kernel_rfl)).elim
 case' h2=>skip
 refine' yg ?x3 Z Z Z (by kernel_rfl) ?r3 Z ?h3;case x3=>
  intro b hb g;cases b;·
   refine bG [2] [] Z Z Z Z Z (jM j (cS j (dm j)) ij 3) Z Z (by rfl) (by rfl) Z Z Z Z ?_;refine C0 (xo j f 1) ⟨rfl,rfl,rfl,rfl,rfl,trivial⟩ ?_;refine ab ?_;exact⟨rfl,rfl⟩
  refine bG [2] [] Z Z Z Z Z (jM j (cS j (dm j)) ij 3) Z Z (by rfl) (by rfl) Z Z Z Z ?_;refine C0 ((6,qC)::xo j f 1) ⟨rfl,rfl,rfl,rfl,rfl,rfl,trivial⟩ ?_;refine ab ?_;exact⟨rfl,rfl⟩
 case r3=>intro _;rfl
 case' h3=>skip
 refine' vd ?p4 Z Z Z (by kernel_rfl) Z ?h4;case p4=>refine⟨?_,?_,?_,?_⟩ <;> intro M <;> first | (refine⟨ev aX Z,?_⟩;intro _;rfl) | exact(bb M (by kernel_rfl)).elim
 case' h4=>skip
 refine' vd ?p5 Z Z Z (by kernel_rfl) Z ?h5;case p5=>refine⟨?_,?_,?_,?_⟩ <;> intro M <;> first | (refine⟨Pu.qT (build aX Z Z Z Z) Z,?_⟩;intro _;rfl) | exact(bb M (by kernel_rfl)).elim
 case' h5=>skip
 refine Jf Z Z Z Z Z (by kernel_rfl) Z ?_;refine au ?_ Z;refine bl aX Z Z Z Z Z Z Z Z (ab (qs (ae (ba 2 Z ?_))));refine W.oO [(3,.ptr 0 0),(6,.ptr 1 0),(10,.ptr 2 0),(11,.ptr 3 0)] [7] [(0,qC),(1,obj j (e9 j f (fF j (cS j (dm j))))),(2,f.c.map A.d),(3,[.d (ci (BF j)),.d (ci f.kind),.d (cs (pg j f)),.d (ci 0),.d (ci 0),.d (.sl [])])] [] [] 4 ?_ ?_;·
  refine be Z (fun N=>?_) (fun N=>?_);·
   rw[show e9 j f (fF j (cS j (dm j)))=(fF j (cS j (dm j)) || fK j cP 4) from if_pos N,show pg j f=(cH j cP 4).s from if_pos N];refine aa (pE Z (bG [2] [] Z Z Z Z Z ((jM j (fF j (cS j (dm j))) cP 4)) Z Z (by rfl) (by rfl) Z Z Z Z ?_));refine aZ 2 Z ?_;refine bl aX Z Z Z Z Z Z Z Z (ab (eJ [1,2,5,6] Z ?_ ⟨rfl,rfl,trivial⟩ ?_ trivial Z));·repeat' constructor
   repeat' constructor
  rw[show e9 j f (fF j (cS j (dm j)))=fF j (cS j (dm j)) from if_neg (by rw[N];simp),show pg j f=cC from if_neg (by rw[N];simp)];refine ah (eJ [1,2,5,6] Z ?_ ⟨rfl,rfl,trivial⟩ ?_ trivial Z);·repeat' constructor
  repeat' constructor
 refine qs (ae (ba 3 Z ?_));refine W.oO [(3,.ptr 0 0),(6,.ptr 1 0),(10,.ptr 2 0),(11,.ptr 3 0)] [7] [(0,qC),(1,obj j (iV j f (e9 j f (fF j (cS j (dm j)))))),(2,f.c.map A.d),(3,[.d (ci (BF j)),.d (ci f.kind),.d (cs (pg j f)),.d (ci (nO j f)),.d (ci 0),.d (.sl [])])] [] [] 4 ?_ ?_;·
  refine be Z (fun ai=>?_) (fun ai=>?_);·
   have hn:¬ f.n=cC:=by simpa [cC] using ai
   rw[show iV j f (e9 j f (fF j (cS j (dm j))))=(e9 j f (fF j (cS j (dm j))) || fK j f.n 3) from if_neg hn,show nO j f=(cH j f.n 3).n from if_neg hn];refine aa (aZ 3 Z ?_);refine bG [1] [] Z Z Z Z Z ((jM j (e9 j f (fF j (cS j (dm j)))) f.n 3)) Z Z (by rfl) (by rfl) Z Z Z Z ?_;refine aZ 2 Z ?_;refine bl aX Z Z Z Z Z Z Z Z (ab (eJ [0,1,2,3] Z ?_ ⟨rfl,rfl,trivial⟩ ?_ trivial Z));·repeat' constructor
   repeat' constructor
  have hn:f.n=cC:=by simpa [cC] using ai
  rw[show iV j f (e9 j f (fF j (cS j (dm j))))=e9 j f (fF j (cS j (dm j))) from if_pos hn,show nO j f=0 from if_pos hn];refine ah (eJ [0,1,2,3] Z ?_ ⟨rfl,rfl,trivial⟩ ?_ trivial Z);·repeat' constructor
  repeat' constructor
 refine qs (ae ?_);apply bL;(case hb=>rfl);·
  refine aZ 4 Z ?_;apply fI;(case hj=>rfl);(case hl=>rfl);·
   intro b0;iterate 3 refine bC Z Z Z Z ?_
   refine aZ 2 Z ?_;refine ab (cc Z Z Z)
  intro b0;refine bH Z Z (pE Z (bH Z Z (aZ 1 Z ?_)));refine bH Z Z (aZ 3 Z ?_);refine ab (cc Z Z Z)
 refine qs ?_;iterate 2 refine ae ?_
 apply bL;(case hb=>rfl);·
  refine aZ 4 Z ?_;apply fI;(case hj=>rfl);(case hl=>rfl);·
   intro b2;refine bH Z Z (aZ 2 Z ?_);refine ab (cc Z Z Z)
  intro b2;refine bC Z Z Z Z (pE Z (ab (cc Z Z Z)))
 refine qs (W.oO [(3,.ptr 0 0),(6,.ptr 1 0),(10,.ptr 2 0),(11,.ptr 3 0)] [7,12] [(0,qC),(1,obj j (lR j f (iM j f) (iV j f (e9 j f (fF j (cS j (dm j))))))),(2,f.c.map A.d),(3,[.d (ci (BF j)),.d (ci f.kind),.d (cs (pg j f)),.d (ci (nO j f)),.d (ci (mO j f (iM j f))),.d (.sl [])])] [] [] 4 ?_ ?_);·
  refine be Z (fun aj=>?_) (fun aj=>?_);·
   have hm:vF f (iM j f)=true:=aj;rw[show lR j f (iM j f) (iV j f (e9 j f (fF j (cS j (dm j)))))=(iV j f (e9 j f (fF j (cS j (dm j)))) || fK j f.m 3) from if_pos hm,show mO j f (iM j f)=(cH j f.m 3).n from if_pos hm];refine aa (aZ 3 Z ?_);refine bG [1] [] Z Z Z Z Z ((jM j (iV j f (e9 j f (fF j (cS j (dm j))))) f.m 3)) Z Z (by rfl) (by rfl) Z Z Z Z ?_;refine aZ 2 Z ?_;refine bl aX Z Z Z Z Z Z Z Z (ab (eJ [0,1,2,3] Z ?_ ⟨rfl,rfl,rfl,rfl,trivial⟩ ?_ trivial Z));·repeat' constructor
   repeat' constructor
  have hm:¬ vF f (iM j f)=true:=by rw[show vF f (iM j f)=false from aj];simp
  rw[show lR j f (iM j f) (iV j f (e9 j f (fF j (cS j (dm j)))))=iV j f (e9 j f (fF j (cS j (dm j)))) from if_neg hm,show mO j f (iM j f)=0 from if_neg hm];refine ah (eJ [0,1,2,3] Z ?_ ⟨rfl,rfl,rfl,rfl,trivial⟩ ?_ trivial Z);·repeat' constructor
  repeat' constructor
 refine qs (ae (ba 2 Z ?_));refine W.oO [(3,.ptr 0 0),(6,.ptr 1 0),(10,.ptr 2 0),(11,.ptr 3 0)] [7,12] [(0,qC),(1,obj j (vm j f (lR j f (iM j f) (iV j f (e9 j f (fF j (cS j (dm j)))))))),(2,f.c.map A.d),(3,[.d (ci (BF j)),.d (ci f.kind),.d (cs (pg j f)),.d (ci (nO j f)),.d (ci (mO j f (iM j f))),.d (.sl (Ck (Fg j f)))])] [] [] 4 ?_ ?_;·
  refine be Z (fun O=>?_) (fun O=>?_);·
   rw[show vm j f (lR j f (iM j f) (iV j f (e9 j f (fF j (cS j (dm j))))))=((lR j f (iM j f) (iV j f (e9 j f (fF j (cS j (dm j))))) || fK j ct 5) || jh (cH j ct 5).kids) from if_pos O,show Fg j f=xX j from if_pos O];refine aa (pE Z (bG [1] [] Z Z Z Z Z ((BI j (lR j f (iM j f) (iV j f (e9 j f (fF j (cS j (dm j)))))) hs)) Z Z (by rfl) (by rfl) Z Z Z Z ?_));refine pE Z (bl aX Z Z Z Z Z Z Z Z (ab (eJ [0,1,2,3] Z ?_ ⟨rfl,rfl,rfl,rfl,trivial⟩ ?_ trivial Z)));·repeat' constructor
   repeat' constructor
  rw[show vm j f (lR j f (iM j f) (iV j f (e9 j f (fF j (cS j (dm j))))))=lR j f (iM j f) (iV j f (e9 j f (fF j (cS j (dm j))))) from if_neg (by rw[O];simp),show Fg j f=[] from if_neg (by rw[O];simp)];refine ah (eJ [0,1,2,3] Z ?_ ⟨rfl,rfl,rfl,rfl,trivial⟩ ?_ trivial Z);·repeat' constructor
  repeat' constructor
 refine qs ?_;iterate 2 refine ae ?_
 have hB:Ek j f (cS j (dm j))=vm j f (lR j f (iM j f) (iV j f (e9 j f (fF j (cS j (dm j)))))):=rfl;generalize vm j f (lR j f (iM j f) (iV j f (e9 j f (fF j (cS j (dm j))))))=B at hB ⊢;apply bL;(case hb=>rfl);·
  refine aZ 5 Z ?_;apply fI;(case hj=>rfl);(case hl=>rfl);·
   intro b3;iterate 6 refine bC Z Z Z Z ?_
   refine pE Z (ab (cc Z Z Z))
  intro b3;refine bH Z Z (pE Z (bH Z Z (aZ 1 Z ?_)));refine bH Z Z (pE Z (bH Z Z (pu (bm Z Z Z (uS f (iM j f)) Z) Z ?_)));refine bH Z Z (pu (bm Z Z Z (tT j B (dA f (iM j f))) Z) Z ?_);refine bH Z Z (aZ 2 Z ?_);refine ab (cc Z Z Z)
 refine qs (be Z (fun U=>?_) (fun U=>?_));·
  have J:cE j=(0,qW,10):=by rw[hE,hB,if_pos U]
  refine ae (aa (pu (ld (build aX Z Z Z Z) Z) Z ?_));refine pE Z (bl aX Z Z Z Z Z Z Z Z (pE Z (ab (qs (W.ret (bo (QV.br aX trivial Z ?_)))))));rw[J];rfl
 rw[hB,if_neg (by rw[show(bif B then true else !kj j (dA f (iM j f)))=false from U];simp)] at hE;refine ah (qs ?_);iterate 2 refine ae ?_
 refine aa (aZ 1 Z ?_);refine pu (bm Z Z Z (wa (oR j f)) Z) Z ?_;refine pE Z (ab (qs (ba 2 Z ?_)));refine be Z (fun X=>?_) (fun X=>?_);·
  have J:cE j=(0,qW,dN (oR j f)):=by rw[hE,if_pos (by simpa using X)]
  refine ae (aa (pu (ld (build aX Z Z Z Z) Z) Z ?_));refine aZ 2 Z ?_;refine bl aX Z Z Z Z Z Z Z Z (pE Z (ab (qs (W.ret (bo (QV.br aX trivial Z ?_))))));rw[J];rfl
 have J:cE j=((cH j cU 3).n,oR j f,0):=by rw[hE,if_neg (by simpa using X)]
 refine ah (qs (ae (W.rG aX 3 0 (by kernel_rfl) Z Z ?_)));refine gD Z (ev aX Z) Z ?_;refine gD Z (ev aX Z) Z ?_;refine gD Z (ev aX Z) Z ?_;refine aD ?_;refine bl aX Z Z Z Z Z Z Z Z (pE Z (ab (qs (W.ret (QV.br aX trivial Z ?_)))));rw[J];rfl
theorem jc (s:ByteArray):bq Tryz.prog 35 [.d (.v (.string s))] (.ag (tJ s).c) 0:=by refine bq.dQ aX (n:=5) (rs:=[.cell 2 46]) Tryz.func35 (by kernel_rfl) Z Tryz.ntmps35 Tryz.results35 Z fun C hC I=>?_;refine ae (aa (bK aX Z Z Z (ab (qs (ae (aa (pE Z (pu (ld (build aX Z Z Z Z) Z) Z ?_))))))));refine bl aX Z Z Z Z Z Z Z Z (ab (qs (W.ret (QV.br aX trivial Z ?_))));rfl
theorem jz (n:Int):bq Tryz.prog 36 [.d (ci n)] (.ag (nJ n).c) 0:=by refine bq.dQ aX (n:=5) (rs:=[.cell 2 46]) Tryz.func36 (by kernel_rfl) Z Tryz.ntmps36 Tryz.results36 Z fun C hC I=>?_;refine ae (aa (bK aX Z Z Z (ab (qs (ae (aa (pE Z (pu (ld (build aX Z Z Z Z) Z) Z ?_))))))));refine bl aX Z Z Z Z Z Z Z Z (ab (qs (W.ret (QV.br aX trivial Z ?_))));rfl
abbrev zN:List A:=[.d (ci 0),.d (ci 0),.d (cs (B #[])),.d (.v (.slice none 0 0)),.d (.v (.slice none 0 0))]
theorem tS (id:Int) (e:Ev) (f:Fm) (hf:mf e.kind=some f) (hs:e.stack.length≤1000000):bq Tryz.prog 37 [.d (ci id),.ag e.c] (.ag (wH f id e).c) 0:=by
 obtain⟨i,hi,hfi⟩:=DA hf
 obtain⟨l,hl⟩:∃ l,l=dA f (uG f e):=⟨_,rfl⟩
 have hl7:l.length≤7:=hl▸vO f _
 refine bq.dQ aX (n:=94) (rs:=[.cell 4 46]) Tryz.func37 (by kernel_rfl) rfl Tryz.ntmps37 Tryz.results37 rfl fun C hC hG=>?_
 refine ae (aa (cG rfl rfl rfl (bK aX rfl rfl rfl (ab (qs (ae (aa (pu (bm rfl rfl rfl (ns ..) rfl) rfl ?_))))))))
 refine pE rfl (pu (bm rfl rfl rfl (tQ _ [.row (e.c.map A.d)] ⟨fun _ _=>rfl,rfl⟩ _ (BX e) jC) rfl) rfl ?_)
 refine pE rfl (ab (qs (ae ?_)))
 rw[hi]
 refine aa (pu (bm rfl rfl rfl (ns ..) rfl) rfl ?_)
 refine pE rfl (pu (indexAddr (l:=f.c) aX rfl rfl rfl rfl rfl rfl (Int.natCast_nonneg _) (bN hfi) rfl) rfl ?_)
 refine aZ 1 rfl ?_
 refine bK aX rfl rfl rfl (bl aX rfl rfl rfl rfl rfl rfl rfl rfl (ab (qs (ae (W.oO [(3,.ptr 0 0),(4,.ptr 1 0),(6,.ptr 2 0),(7,.ptr 3 0)] [0] [(0,e.c.map A.d),(1,zN),(2,f.c.map A.d),(3,[.d (ci 6),.d (ci 0),.d (cs cC),.d (.sl (l.map sc)),.d (.v (.slice none 0 0))])] [] [] 4 ?_ ?_)))))
 ·
  refine aa (aZ 5 rfl ?_)
  refine nl rfl rfl (fun g24=>?_) (fun g24=>?_)
  ·
   have hl2:l=dA f true:=by rw[hl];unfold uG;rw[show(!decide (f.ph=pS))=true from g24];rfl
   rw[hl2]
   iterate 3 refine bC rfl rfl rfl rfl ?_
   refine pE rfl (pu (bm rfl rfl rfl (uS f _) rfl) rfl ?_)
   refine pu (build aX rfl rfl rfl rfl) rfl ?_
   refine bK aX rfl rfl rfl (bl aX rfl rfl rfl rfl rfl rfl rfl rfl (ab (eJ [0,1,2,3] rfl ?_ ⟨rfl,rfl,trivial⟩ ?_ trivial rfl)))
   · repeat' first | exact trivial | refine⟨rfl,?_⟩
   repeat' first | exact trivial | refine⟨rfl,?_⟩
  have hl2:l=dA f (decide (e.n=2)):=by rw[hl];unfold uG;rw[show(!decide (f.ph=pS))=false from g24];rfl
  rw[hl2]
  refine bH rfl rfl (pE rfl (bH rfl rfl (aZ 1 rfl ?_)))
  refine bH rfl rfl (aZ 2 rfl ?_)
  refine pu (bm rfl rfl rfl (uS f _) rfl) rfl ?_
  refine pu (build aX rfl rfl rfl rfl) rfl ?_
  refine bK aX rfl rfl rfl (bl aX rfl rfl rfl rfl rfl rfl rfl rfl (ab (eJ [0,1,2,3] rfl ?_ ⟨rfl,rfl,trivial⟩ ?_ trivial rfl)))
  · repeat' first | exact trivial | refine⟨rfl,?_⟩
  repeat' first | exact trivial | refine⟨rfl,?_⟩
 refine qs (ae (ba 4 rfl ?_))
 refine W.block (eZ 3 4 rfl rfl rfl ?_)
 refine W.len (t:=32) rfl rfl (fun hlen=>?_)
 try simp only[List.length_map,Ex.bA] at hlen
 refine W.b7 (ι:={x:Nat×List JV // match x with | (k,acc)=>k≤l.length∧acc=(l.take k).map (fZ f id e)})
  (fun x=>match x.1 with | (k,acc)=>[(3,.ptr 0 0),(4,.ptr 1 0),(6,.ptr 2 0),(7,.ptr 3 0),(34,.d (.v (.int .i64 ((k:Nat):Int))))]) [(0,_),(32,_),(33,_)]
  (fun x=>match x.1 with | (k,acc)=>[(0,e.c.map A.d),(1,zN),(2,f.c.map A.d),(3,[.d (ci 6),.d (ci 0),.d (cs cC),.d (.sl (l.map sc)),.own 4 (acc.map JV.c)])]) [] [4] 5 (fun x=>match x.1 with | (k,acc)=>l.length - k)
  [0,1,2,3,4] ⟨(0,[]),?_⟩ rfl ?_ ⟨rfl,rfl,rfl,rfl,rfl,rfl,trivial⟩ ?_ trivial rfl ?_
 · exact⟨Nat.zero_le _,rfl⟩
 · repeat' first | exact trivial | refine⟨rfl,?_⟩
 · repeat' first | exact trivial | refine⟨rfl,?_⟩
 rintro⟨⟨k,acc⟩,hk,hacc⟩
 show W _ _ _ _ _ ⟨[(3,.ptr 0 0),(4,.ptr 1 0),(6,.ptr 2 0),(7,.ptr 3 0),(34,.d (.v (.int .i64 ((k:Nat):Int)))),(0,_),(32,_),(33,_)],[(0,e.c.map A.d),(1,zN),(2,f.c.map A.d),(3,[.d (ci 6),.d (ci 0),.d (cs cC),.d (.sl (l.map sc)),.own 4 (acc.map JV.c)])],[4],5⟩
 have hal:acc.length≤7:=by rw[hacc,List.length_map,List.length_take];omega
 refine ba 1 rfl ?_
 refine ae (cB (l:=l) (k:=k) rfl (by simp[Ex.bA,bk]) hk (fun w hx hd hlt=>?_) (fun he hd=>?_))
 ·
  refine ah (qs (ae (W.block (ae (aa (pu (indexAddr (l:=sc w) aX rfl rfl rfl rfl rfl rfl (Int.natCast_nonneg _) (bN hx) rfl) rfl ?_))))))
  refine aZ 2 rfl ?_
  refine ab (qs (ae (aa (bK aX rfl rfl rfl (ab (qs (ae (ba 1 rfl ?_))))))))
  refine W.oO [(3,.ptr 0 0),(4,.ptr 1 0),(6,.ptr 2 0),(7,.ptr 3 0),(10,.ptr 4 0)] [0,32,33,34] [(0,e.c.map A.d),(1,zN),(2,f.c.map A.d),(3,[.d (ci 6),.d (ci 0),.d (cs cC),.d (.sl (l.map sc)),.own 5 (acc.map JV.c)]),(4,(fZ f id e w).c.map A.d)] [] [5] 6 ?_ ?_
  ·
   refine W.block (ba 2 rfl ?_)
   refine be rfl (fun h42=>?_) (fun h42=>?_)
   ·
    have hw:w=eT:=by simpa [eT] using h42
    rw[show fZ f id e w=tJ f.ph from if_pos hw]
    refine aa (aZ 2 rfl ?_)
    refine pu (bm rfl rfl rfl (jc ..) rfl) rfl ?_
    refine bl aX rfl rfl rfl rfl rfl rfl rfl rfl (ab (ca (eJ [0,1,2,3,5,4] rfl ?_ ⟨rfl,rfl,rfl,rfl,rfl,rfl,rfl,rfl,trivial⟩ ?_ trivial rfl)))
    · repeat' first | exact trivial | refine⟨rfl,?_⟩
    repeat' first | exact trivial | refine⟨rfl,?_⟩
   have n1:¬ w=eT:=by simpa [eT] using h42
   refine ba 2 rfl ?_
   refine be rfl (fun h47=>?_) (fun h47=>?_)
   ·
    have hw:w=cU:=by simpa [cU] using h47
    rw[show fZ f id e w=nJ id from by unfold fZ;rw[if_neg n1,if_pos hw]]
    refine aa (pE rfl (pu (bm rfl rfl rfl (jz ..) rfl) rfl ?_))
    refine bl aX rfl rfl rfl rfl rfl rfl rfl rfl (ab (ca (eJ [0,1,2,3,5,4] rfl ?_ ⟨rfl,rfl,rfl,rfl,rfl,rfl,rfl,rfl,trivial⟩ ?_ trivial rfl)))
    · repeat' first | exact trivial | refine⟨rfl,?_⟩
    repeat' first | exact trivial | refine⟨rfl,?_⟩
   have n2:¬ w=cU:=by simpa [cU] using h47
   refine ba 2 rfl ?_
   refine be rfl (fun h51=>?_) (fun h51=>?_)
   ·
    have hw:w=cP:=by simpa [cP] using h51
    rw[show fZ f id e w=tJ e.name from by unfold fZ;rw[if_neg n1,if_neg n2,if_pos hw]]
    refine aa (aZ 2 rfl ?_)
    refine pu (bm rfl rfl rfl (jc ..) rfl) rfl ?_
    refine bl aX rfl rfl rfl rfl rfl rfl rfl rfl (ab (ca (eJ [0,1,2,3,5,4] rfl ?_ ⟨rfl,rfl,rfl,rfl,rfl,rfl,rfl,rfl,trivial⟩ ?_ trivial rfl)))
    · repeat' first | exact trivial | refine⟨rfl,?_⟩
    repeat' first | exact trivial | refine⟨rfl,?_⟩
   have n3:¬ w=cP:=by simpa [cP] using h51
   refine ba 2 rfl ?_
   refine be rfl (fun h56=>?_) (fun h56=>?_)
   ·
    have hw:w=ij:=by simpa [ij] using h56
    rw[show fZ f id e w=nJ e.time from by unfold fZ;rw[if_neg n1,if_neg n2,if_neg n3,if_pos hw]]
    refine aa (aZ 2 rfl ?_)
    refine pu (bm rfl rfl rfl (jz ..) rfl) rfl ?_
    refine bl aX rfl rfl rfl rfl rfl rfl rfl rfl (ab (ca (eJ [0,1,2,3,5,4] rfl ?_ ⟨rfl,rfl,rfl,rfl,rfl,rfl,rfl,rfl,trivial⟩ ?_ trivial rfl)))
    · repeat' first | exact trivial | refine⟨rfl,?_⟩
    repeat' first | exact trivial | refine⟨rfl,?_⟩
   have n4:¬ w=ij:=by simpa [ij] using h56
   refine ba 2 rfl ?_
   refine be rfl (fun h61=>?_) (fun h61=>?_)
   ·
    have hw:w=ct:=by simpa [ct] using h61
    rw[show fZ f id e w=.mk 5 0 cC [] (e.stack.map tJ) from by unfold fZ;rw[if_neg n1,if_neg n2,if_neg n3,if_neg n4,if_pos hw],jQ]
    refine ae (aa (pu (build aX rfl rfl rfl rfl) rfl ?_))
    refine bl aX rfl rfl rfl rfl rfl rfl rfl rfl (ab (qs (ba 4 rfl ?_)))
    refine W.block (jj 5 3 rfl rfl rfl ?_)
    refine eZ 5 4 rfl rfl rfl ?_
    refine W.len (t:=65) rfl rfl (fun hlen=>?_)
    try simp only[List.length_map,Ex.bA] at hlen
    refine W.b7 (ι:={x:Nat×List JV // match x with | (q,bcc)=>q≤e.stack.length∧bcc=(e.stack.take q).map tJ})
     (fun x=>match x.1 with | (q,bcc)=>[(3,.ptr 0 0),(4,.ptr 1 0),(6,.ptr 2 0),(7,.ptr 3 0),(10,.ptr 4 0),(67,.d (.v (.int .i64 ((q:Nat):Int))))]) [(0,_),(32,_),(33,_),(34,_),(65,_),(66,_)]
     (fun x=>match x.1 with | (q,bcc)=>[(0,e.c.map A.d),(1,zN),(2,f.c.map A.d),(3,[.d (ci 6),.d (ci 0),.d (cs cC),.d (.sl (l.map sc)),.own 5 (acc.map JV.c)]),(4,[.d (ci 5),.d (ci 0),.d (cs cC),.d (.sl []),.own 6 (bcc.map JV.c)])]) [] [5,6] 7 (fun x=>match x.1 with | (q,bcc)=>e.stack.length - q)
     [0,1,2,3,5,4,6] ⟨(0,[]),?_⟩ rfl ?_ ⟨rfl,rfl,rfl,rfl,rfl,rfl,rfl,rfl,rfl,rfl,rfl,rfl,trivial⟩ ?_ trivial rfl ?_
    · exact⟨Nat.zero_le _,rfl⟩
    · repeat' first | exact trivial | refine⟨rfl,?_⟩
    · repeat' first | exact trivial | refine⟨rfl,?_⟩
    rintro⟨⟨q,bcc⟩,hk,hbcc⟩
    show W _ _ _ _ _ ⟨[(3,.ptr 0 0),(4,.ptr 1 0),(6,.ptr 2 0),(7,.ptr 3 0),(10,.ptr 4 0),(67,.d (.v (.int .i64 ((q:Nat):Int)))),(0,_),(32,_),(33,_),(34,_),(65,_),(66,_)],[(0,e.c.map A.d),(1,zN),(2,f.c.map A.d),(3,[.d (ci 6),.d (ci 0),.d (cs cC),.d (.sl (l.map sc)),.own 5 (acc.map JV.c)]),(4,[.d (ci 5),.d (ci 0),.d (cs cC),.d (.sl []),.own 6 (bcc.map JV.c)])],[5,6],7⟩
    have hbl:bcc.length≤e.stack.length:=by rw[hbcc,List.length_map,List.length_take];omega
    refine ba 1 rfl ?_
    refine ae (cB (l:=e.stack) (k:=q) rfl (by simp[Ex.bA,bk]) hk (fun u hx hd hlt=>?_) (fun he hd=>?_))
    ·
     refine ah (qs (ae (W.block (ae (aa (pu (indexAddr (l:=sc u) aX rfl rfl rfl rfl rfl rfl (Int.natCast_nonneg _) (bN hx) rfl) rfl ?_))))))
     refine aZ 2 rfl ?_
     refine ab (qs (W.rB aX [] [] [] [] 5 (by kernel_rfl) (by kernel_rfl) rfl rfl ?_))
     refine' bX (ev aX rfl) ?p_1 rfl rfl rfl (by kernel_rfl) rfl ?h_1
     case' h_1=>skip
     case p_1=>refine⟨fun ha=>(bb ha (by kernel_rfl)).elim,?_⟩ <;> intro ha <;> first | exact⟨ev aX rfl,fun h=>nomatch h⟩ | exact(bb ha (by kernel_rfl)).elim
     refine' bX (ev aX rfl) ?p_2 rfl rfl rfl (by kernel_rfl) rfl ?h_2
     case' h_2=>skip
     case p_2=>refine⟨fun ha=>(bb ha (by kernel_rfl)).elim,?_⟩ <;> intro ha <;> first | exact⟨ev aX rfl,fun h=>nomatch h⟩ | exact⟨eG aX rfl rfl rfl rfl,fun h=>nomatch h⟩ | exact⟨eC aX rfl rfl rfl rfl rfl,fun h=>nomatch h⟩ | exact(bb ha (by kernel_rfl)).elim
     refine' bX (ev aX rfl) ?p_3 rfl rfl rfl (by kernel_rfl) rfl ?h_3
     case' h_3=>skip
     case p_3=>refine⟨fun ha=>(bb ha (by kernel_rfl)).elim,?_⟩ <;> intro ha <;> first | exact⟨ev aX rfl,fun h=>nomatch h⟩ | exact(bb ha (by kernel_rfl)).elim
     refine' bX (bm rfl rfl rfl (jc ..) rfl) ?p_4 rfl rfl rfl (by kernel_rfl) rfl ?h_4
     case' h_4=>skip
     case p_4=>refine⟨fun ha=>(bb ha (by kernel_rfl)).elim,?_⟩ <;> intro ha <;> first | exact⟨bm rfl rfl rfl (jc ..) rfl,fun h=>nomatch h⟩ | exact(bb ha (by kernel_rfl)).elim
     refine' bX (b9 aX rfl rfl rfl rfl rfl rfl rfl rfl rfl) ?p_5 rfl rfl rfl (by kernel_rfl) rfl ?h_5
     case' h_5=>skip
     case p_5=>refine⟨fun ha=>(bb ha (by kernel_rfl)).elim,?_⟩ <;> intro ha <;> first | exact⟨b9 aX rfl rfl rfl rfl rfl rfl rfl rfl rfl,fun h=>nomatch h⟩ | exact(bb ha (by kernel_rfl)).elim
     refine au ?_ rfl
     refine fD (fn:=JV.c) (a:=tJ u) aX rfl rfl rfl rfl rfl rfl rfl rfl rfl rfl (fun _=>rfl) (by show(bcc.length+1)*80≤_;omega) ?_
     refine pE rfl (bl aX rfl rfl rfl rfl rfl rfl rfl rfl (ab (ca (qs (cQ 2 rfl ?_)))))
     refine W.cr [0,1,2,3,4,5,7] ⟨(q+1,bcc++[tJ u]),?_⟩ ?_ rfl ?_ ⟨rfl,rfl,rfl,rfl,rfl,rfl,rfl,rfl,rfl,rfl,rfl,rfl,trivial⟩ ?_ trivial rfl
     · exact⟨hlt,by rw[List.take_add_one,hx,List.map_append,hbcc];rfl⟩
     · dsimp only;omega
     · repeat' first | exact trivial | refine⟨rfl,?_⟩ | refine⟨bJ (by assumption) (by assumption),?_⟩
     repeat' first | exact trivial | refine⟨rfl,?_⟩
    have hb2:bcc=e.stack.map tJ:=by rw[hbcc,he,List.take_length]
    refine GD 4 4 rfl rfl rfl ?_
    subst hb2
    refine an (bT (bR (bP (ca (eJ [0,1,2,3,4,5] rfl ?_ ⟨rfl,rfl,rfl,rfl,rfl,rfl,rfl,rfl,trivial⟩ ?_ trivial rfl)))))
    · repeat' first | exact trivial | refine⟨rfl,?_⟩
    repeat' first | exact trivial | refine⟨rfl,?_⟩
   have n5:¬ w=ct:=by simpa [ct] using h61
   refine ba 4 rfl ?_
   refine be rfl (fun h79=>?_) (fun h79=>?_)
   ·
    have hw:w=f.n:=by simpa using h79
    rw[show fZ f id e w=nJ e.n from by unfold fZ;rw[if_neg n1,if_neg n2,if_neg n3,if_neg n4,if_neg n5,if_pos hw]]
    refine aa (aZ 2 rfl ?_)
    refine pu (bm rfl rfl rfl (jz ..) rfl) rfl ?_
    refine bl aX rfl rfl rfl rfl rfl rfl rfl rfl (ab (ca (eJ [0,1,2,3,5,4] rfl ?_ ⟨rfl,rfl,rfl,rfl,rfl,rfl,rfl,rfl,trivial⟩ ?_ trivial rfl)))
    · repeat' first | exact trivial | refine⟨rfl,?_⟩
    repeat' first | exact trivial | refine⟨rfl,?_⟩
   have n6:¬ w=f.n:=by simpa using h79
   rw[show fZ f id e w=nJ e.m from by unfold fZ;rw[if_neg n1,if_neg n2,if_neg n3,if_neg n4,if_neg n5,if_neg n6]]
   refine aa (aZ 2 rfl ?_)
   refine pu (bm rfl rfl rfl (jz ..) rfl) rfl ?_
   refine bl aX rfl rfl rfl rfl rfl rfl rfl rfl (ab (ca (eJ [0,1,2,3,5,4] rfl ?_ ⟨rfl,rfl,rfl,rfl,rfl,rfl,rfl,rfl,trivial⟩ ?_ trivial rfl)))
   · repeat' first | exact trivial | refine⟨rfl,?_⟩
   repeat' first | exact trivial | refine⟨rfl,?_⟩
  refine qs (aa (aZ 3 rfl ?_))
  refine pu (b9 aX rfl rfl rfl rfl rfl rfl rfl rfl rfl) rfl ?_
  refine fD (fn:=JV.c) (a:=fZ f id e w) aX rfl rfl rfl rfl rfl rfl rfl rfl rfl rfl (fun _=>rfl) (by show(acc.length+1)*80≤_;omega) ?_
  refine pE rfl (bl aX rfl rfl rfl rfl rfl rfl rfl rfl (ab (ca (qs (cQ 2 rfl ?_)))))
  refine W.cr [0,1,2,3,6] ⟨(k+1,acc++[fZ f id e w]),?_⟩ ?_ rfl ?_ ⟨rfl,rfl,rfl,rfl,rfl,rfl,trivial⟩ ?_ trivial rfl
  · exact⟨hlt,by rw[List.take_add_one,hx,List.map_append,hacc];rfl⟩
  · dsimp only;omega
  · repeat' first | exact trivial | refine⟨rfl,?_⟩ | refine⟨bJ (by assumption) (by assumption),?_⟩
  repeat' first | exact trivial | refine⟨rfl,?_⟩
 have ha2:acc=l.map (fZ f id e):=by rw[hacc,he,List.take_length]
 refine an (bT (bR (bP (qs (ae (aa (aZ 1 rfl ?_)))))))
 refine bl aX rfl rfl rfl rfl rfl rfl rfl rfl (ab (qs (W.ret (QV.br aX trivial rfl ?_))))
 rw[show wH f id e=.mk 6 0 cC l (l.map (fZ f id e)) from by rw[hl];rfl,jQ,ha2];rfl
theorem Hs (b:UInt8):(dz b).length≤2:=by unfold dz;split <;> (try split) <;> (try split) <;> simp
theorem va:∀ l:List UInt8,(l.flatMap dz).length≤2*l.length
 | []=>by simp
 | b::l=>by have h1:=Hs b;have h2:=va l;simp only[List.flatMap_cons,List.length_append,List.length_cons];omega
theorem jm (t:ByteArray) (l:List UInt8):bc (t++bytesOf l)=bc t++l:=by simp[bc,bytesOf]
theorem He {b:UInt8} (h:(b.toNat:Int)=34∨(b.toNat:Int)=92) (t:ByteArray):t++B #[92]++bytesOf [b]=t++bytesOf (dz b):=by
 have e:b=34∨b=92:=by
  rcases h with h | h
  ·exact .inl (UInt8.toNat_inj.1 (by show b.toNat=34;omega))
  exact .inr (UInt8.toNat_inj.1 (by show b.toNat=92;omega))
 refine kn ?_;unfold dz;rw[if_pos e];simp[bc,bytesOf]
theorem Jh {b:UInt8} (h:(b.toNat:Int)=10) (t:ByteArray):t++B #[92,110]=t++bytesOf (dz b):=by have e:b=10:=UInt8.toNat_inj.1 (by show b.toNat=10;omega);subst e;rfl
theorem Jt {b:UInt8} (h:(b.toNat:Int)=9) (t:ByteArray):t++B #[92,116]=t++bytesOf (dz b):=by have e:b=9:=UInt8.toNat_inj.1 (by show b.toNat=9;omega);subst e;rfl
theorem Jv {b:UInt8} (h1:¬ (b.toNat:Int)=34) (h2:¬ (b.toNat:Int)=92) (h3:¬ (b.toNat:Int)=10) (h4:¬ (b.toNat:Int)=9):dz b=[b]:=by unfold dz;rw[if_neg (by rintro(rfl | rfl) <;> simp at h1 h2),if_neg (by rintro rfl;simp at h3),if_neg (by rintro rfl;simp at h4)]
theorem fR (b:UInt8):(bytesOf [b]).size=1∧∀ x,(bytesOf [b]).data[0]? = some x→(x.toNat:Int)=(b.toNat:Int):=⟨rfl,by intro x I;cases I;rfl⟩
theorem lT (t:ByteArray) (a b:List UInt8):t++bytesOf a++bytesOf b=t++bytesOf (a++b):=by refine kn ?_;show bc _=bc _;rw[jm,jm,jm,List.append_assoc]
theorem fA (t:ByteArray) (a:List UInt8):(t++bytesOf a).size=t.size+a.length:=by rw[x8];rfl
theorem fv {u:Bool} {s m r:ByteArray} {c:Int} (e:s++m=r) (hm:m.size=1) (I:∀ b,m.data[0]? = some b→(b.toNat:Int)=c) (hb:s.size+1≤140737488355328):cm Tryz.prog 139 [.ptr 0 0,.d (.v (.int .u8 c))] [[.np 0 tB u,.bf 1 tU s]] 1 (.d (.v .nilIface)) [[.np 0 tB true,.bf 1 tU r]] 1:=e▸pY u s c m hm I hb
theorem lP {u:Bool} {s x r:ByteArray} (e:s++x=r) (hb:s.size+x.size≤140737488355328):cm Tryz.prog 137 [.ptr 0 0,.d (.v (.string x))] [[.np 0 tB u,.bf 1 tU s]] 1 (.tup [.d (.v (.int .i64 x.size)),.d (.v .nilIface)]) [[.np 0 tB true,.bf 1 tU r]] 1:=e▸B8 u s x hb
theorem DE (u:Bool) (t s:ByteArray) (hz:t.size+2*s.size+2≤140737488355328):cm Tryz.prog 138 [.ptr 0 0,.d (.v (.string s))] [[.np 0 tB u,.bf 1 tU t]] 1 (.tup []) [[.np 0 tB true,.bf 1 tU (t++bytesOf (dh (bc s)))]] 1:=by
 refine cm.dQ aX (n:=39) (rs:=[]) Tryz.func138 (by kernel_rfl) rfl Tryz.ntmps138 Tryz.results138 rfl rfl fun C hC hG=>?_
 refine ae (aa (pE rfl (bG [0] [1] rfl rfl rfl rfl rfl ((pY u t 34 (bytesOf [34]) rfl (fR 34).2 (by omega))) rfl rfl (by rfl) (by rfl) rfl rfl rfl rfl ?_)))
 refine ab (qs (ae (ba 3 rfl ?_)))
 refine W.block (W.ot (t:=1) rfl (fun hok=>?_))
 have hlen:=mD hok
 refine W.b7 (ι:={x:Nat×ByteArray // match x with | (k,T)=>k≤(bc s).length∧T=t++bytesOf (34::((bc s).take k).flatMap dz)})
  (fun x=>match x.1 with | (k,T)=>[(0,.ptr 0 0),(10,.d (.v (.int .i64 ((k:Nat):Int))))]) [(1,_),(9,_)]
  (fun x=>match x.1 with | (k,T)=>[(0,[.np 0 tB true,.bf 1 tU T])]) [] [1] 2 (fun x=>match x.1 with | (k,T)=>(bc s).length - k)
  [0,3] ⟨(0,t++bytesOf [34]),?_⟩ rfl ?_ ⟨rfl,rfl,rfl,rfl,trivial⟩ ?_ trivial rfl ?_
 · exact⟨Nat.zero_le _,by simp⟩
 · repeat' first | exact trivial | refine⟨rfl,?_⟩
 · repeat' first | exact trivial | refine⟨rfl,?_⟩
 rintro⟨⟨k,T⟩,hk,hI⟩
 show W _ _ _ _ _ ⟨[(0,.ptr 0 0),(10,.d (.v (.int .i64 ((k:Nat):Int)))),(1,_),(9,_)],[(0,[.np 0 tB true,.bf 1 tU T])],[1],2⟩
 refine ba 1 rfl ?_
 refine ae (cB (l:=bc s) (k:=k) rfl (by simp[Ex.bA,bk]) hk (fun b hx hd hlt=>?_) (fun he hd=>?_))
 ·
  have hTs:T.size≤t.size+1+2*k:=by
   rw[hI,fA]
   have:=va ((bc s).take k)
   simp at *;omega
  have hk1:k+1≤s.size:=by rw[←bk];omega
  have hN:T++bytesOf (dz b)=t++bytesOf (34::((bc s).take (k+1)).flatMap dz):=by rw[hI,lT,List.take_add_one,hx];simp
  refine ah (qs (ae (W.block (ba 2 rfl ?_))))
  refine ae (aa (aZ 2 rfl ?_))
  refine pu (eU aX rfl rfl rfl rfl (Int.natCast_nonneg _) (iG (by assumption))) rfl ?_
  refine pE rfl (ab (qs (ba 1 rfl ?_)))
  refine W.block (ae (ba 2 rfl ?_))
  refine be rfl (fun h20=>?_) (fun h20=>?_)
  ·
   refine ah (qs (W.js rfl (ae (aa (pE rfl (bG [0] [1] rfl rfl rfl rfl rfl ((pY true T 92 (bytesOf [92]) rfl (fR 92).2 (by omega))) rfl rfl (by rfl) (by rfl) rfl rfl rfl rfl ?_))))))
   refine ab (qs (aa (aZ 2 rfl ?_)))
   refine bG [0] [3] rfl rfl rfl rfl rfl ((fv (c:=b.toNat) (s:=T++bytesOf [92]) (m:=bytesOf [b]) (He (b:=b) (by simp_all) T) rfl (fR b).2 (by rw[fA];simp;omega))) rfl rfl (by rfl) (by rfl) rfl rfl rfl rfl ?_
   refine ab (ca (ca (qs (cQ 2 rfl ?_))))
   refine W.cr [0,5] ⟨(k+1,T++bytesOf (dz b)),?_⟩ ?_ rfl ?_ ⟨rfl,rfl,rfl,rfl,trivial⟩ ?_ trivial rfl
   · exact⟨hlt,hN⟩
   · dsimp only;omega
   · repeat' first | exact trivial | refine⟨rfl,?_⟩ | refine⟨bJ (by assumption) (by assumption),?_⟩
   repeat' first | exact trivial | refine⟨rfl,?_⟩
  refine cQ 2 rfl ?_
  refine qs (be rfl (fun h20=>?_) (fun h20=>?_))
  ·
   refine ae (aa (pE rfl (bG [0] [1] rfl rfl rfl rfl rfl ((pY true T 92 (bytesOf [92]) rfl (fR 92).2 (by omega))) rfl rfl (by rfl) (by rfl) rfl rfl rfl rfl ?_)))
   refine ab (qs (aa (aZ 2 rfl ?_)))
   refine bG [0] [3] rfl rfl rfl rfl rfl ((fv (c:=b.toNat) (s:=T++bytesOf [92]) (m:=bytesOf [b]) (He (b:=b) (by simp_all) T) rfl (fR b).2 (by rw[fA];simp;omega))) rfl rfl (by rfl) (by rfl) rfl rfl rfl rfl ?_
   refine ab (ca (ca (qs (cQ 2 rfl ?_))))
   refine W.cr [0,5] ⟨(k+1,T++bytesOf (dz b)),?_⟩ ?_ rfl ?_ ⟨rfl,rfl,rfl,rfl,trivial⟩ ?_ trivial rfl
   · exact⟨hlt,hN⟩
   · dsimp only;omega
   · repeat' first | exact trivial | refine⟨rfl,?_⟩ | refine⟨bJ (by assumption) (by assumption),?_⟩
   repeat' first | exact trivial | refine⟨rfl,?_⟩
  refine ba 2 rfl ?_
  refine be rfl (fun h28=>?_) (fun h28=>?_)
  ·
   refine aa (pE rfl (bG [0] [1] rfl rfl rfl rfl rfl ((lP (s:=T) (x:=bytesOf [92,110]) (Jh (b:=b) (by simp_all) T) (by rw[show(bytesOf [92,110]).size=2 from rfl];omega))) rfl rfl (by rfl) (by rfl) rfl rfl rfl rfl ?_))
   refine ab (ca (ca (qs (cQ 2 rfl ?_))))
   refine W.cr [0,3] ⟨(k+1,T++bytesOf (dz b)),?_⟩ ?_ rfl ?_ ⟨rfl,rfl,rfl,rfl,trivial⟩ ?_ trivial rfl
   · exact⟨hlt,hN⟩
   · dsimp only;omega
   · repeat' first | exact trivial | refine⟨rfl,?_⟩ | refine⟨bJ (by assumption) (by assumption),?_⟩
   repeat' first | exact trivial | refine⟨rfl,?_⟩
  refine ba 2 rfl ?_
  refine be rfl (fun h32=>?_) (fun h32=>?_)
  ·
   refine aa (pE rfl (bG [0] [1] rfl rfl rfl rfl rfl ((lP (s:=T) (x:=bytesOf [92,116]) (Jt (b:=b) (by simp_all) T) (by rw[show(bytesOf [92,116]).size=2 from rfl];omega))) rfl rfl (by rfl) (by rfl) rfl rfl rfl rfl ?_))
   refine ab (ca (ca (qs (cQ 2 rfl ?_))))
   refine W.cr [0,3] ⟨(k+1,T++bytesOf (dz b)),?_⟩ ?_ rfl ?_ ⟨rfl,rfl,rfl,rfl,trivial⟩ ?_ trivial rfl
   · exact⟨hlt,hN⟩
   · dsimp only;omega
   · repeat' first | exact trivial | refine⟨rfl,?_⟩ | refine⟨bJ (by assumption) (by assumption),?_⟩
   repeat' first | exact trivial | refine⟨rfl,?_⟩
  refine aa (aZ 2 rfl ?_)
  refine bG [0] [1] rfl rfl rfl rfl rfl ((fv (c:=b.toNat) (s:=T) (m:=bytesOf [b]) (congrArg (fun l=>T++bytesOf l) (Jv (b:=b) (by simp_all) (by simp_all) (by simp_all) (by simp_all)).symm) rfl (fR b).2 (by omega))) rfl rfl (by rfl) (by rfl) rfl rfl rfl rfl ?_
  refine ab (ca (ca (qs (cQ 2 rfl ?_))))
  refine W.cr [0,3] ⟨(k+1,T++bytesOf (dz b)),?_⟩ ?_ rfl ?_ ⟨rfl,rfl,rfl,rfl,trivial⟩ ?_ trivial rfl
  · exact⟨hlt,hN⟩
  · dsimp only;omega
  · repeat' first | exact trivial | refine⟨rfl,?_⟩ | refine⟨bJ (by assumption) (by assumption),?_⟩
  repeat' first | exact trivial | refine⟨rfl,?_⟩
 have e:k=(bc s).length:=by have:=congrArg List.length hd;simp at this;omega
 have hTs:T.size≤t.size+1+2*k:=by
  rw[hI,fA]
  have:=va ((bc s).take k)
  simp at *;omega
 have hk1:k=s.size:=by rw[←bk];omega
 have hfin:T++bytesOf [34]=t++bytesOf (dh (bc s)):=by rw[hI,lT,e,List.take_length];rfl
 refine an (bT (bR (bP (qs (aa (pE rfl (bG [0] [1] rfl rfl rfl rfl rfl ((fv (c:=34) (s:=T) (m:=bytesOf [34]) hfin rfl (fR 34).2 (by omega))) rfl rfl (by rfl) (by rfl) rfl rfl rfl rfl ?_)))))))
 refine ab (ak aX [3] trivial rfl rfl rfl rfl ?_ ?_)
 · exact⟨rfl,trivial⟩
 rfl
theorem BS:∀ l:List UInt8,l.length≤(l.flatMap dz).length
 | []=>by simp
 | b::l=>by
  have h1:1≤(dz b).length:=by unfold dz;split <;> (try split) <;> (try split) <;> simp
  have h2:=BS l;simp only[List.flatMap_cons,List.length_append,List.length_cons];omega
theorem xq (s:ByteArray):s.size+2≤(dh (bc s)).length:=by have h:=BS (bc s);rw[bk] at h;simp only[dh,List.length_cons,List.length_append,List.length_nil];omega
theorem tF:∀ (l:List JV) (z:JV) (first:Bool),da (l++[z]) first=da l first++(if first && l.isEmpty then [] else [44])++bt z
 | [],z,first=>by cases first <;> simp[da]
 | a::l,z,first=>by rw[List.cons_append,da,da,tF l z false];simp
theorem qk:∀ (ks:List ByteArray) (l:List JV) (s:ByteArray) (z:JV) (first:Bool),ks.length=l.length→bY (ks++[s]) (l++[z]) first=bY ks l first++(if first && l.isEmpty then [] else [44])++dh (bc s)++[58]++bt z
 | [],[],s,z,first,_=>by cases first <;> simp[bY]
 | a::ks,b::l,s,z,first,h=>by rw[List.cons_append,List.cons_append,bY,bY,qk ks l s z false (by simpa using h)];simp
 | [],_::_,_,_,_,h=>by simp at h
 | _::_,[],_,_,_,h=>by simp at h
def gp (j:JV) (k:Nat):List UInt8:=if j.op=6 then bY (j.keys.take k) (j.kids.take k) true else da (j.kids.take k) true
def nB (j:JV):UInt8:=if j.op=6 then 123 else 91
def tR (j:JV):UInt8:=if j.op=6 then 125 else 93
def dJ (k:Nat):List UInt8:=if k=0 then [] else [44]
def gn (j:JV) (k:Nat):List UInt8:=if j.op=6 then dh (bc (j.keys.getD k (B #[])))++[58] else []
theorem wD (j:JV):gp j 0=[]:=by unfold gp;split <;> simp[bY,da]
theorem Ec {l:List JV} {k:Nat} (h:k < l.length):(l.take k).isEmpty=decide (k=0):=by
 rw[Bool.eq_iff_iff];simp only[List.isEmpty_iff,decide_eq_true_eq,List.take_eq_nil_iff];constructor;·
  rintro(h1 | h1);·exact h1
  rw[h1] at h;simp at h
 exact fun h1=>.inl h1
theorem nC {j:JV} {k:Nat} {z:JV} (I:j.kids[k]? = some z) (hl:j.op=6→j.keys.length=j.kids.length):gp j (k+1)=gp j k++dJ k++gn j k++bt z:=by
 have M:k < j.kids.length:=(List.getElem?_eq_some_iff.1 I).1;have hs:(if (true && (j.kids.take k).isEmpty)=true then [] else [44])=dJ k:=by rw[Ec M];unfold dJ;by_cases q:k=0 <;> simp[q]
 unfold gp gn;by_cases ho:j.op=6;·
  have hl:=hl ho;have J:j.keys[k]? = some (j.keys.getD k (B #[])):=by rw[List.getD_eq_getElem?_getD,List.getElem?_eq_getElem (by omega)];rfl
  simp only[if_pos ho];rw[List.take_add_one,J,List.take_add_one,I];show bY (_++[_]) (_++[_]) true=_;rw[qk _ _ _ _ _ (by simp;omega),hs];simp only[List.append_assoc]
 simp only[if_neg ho];rw[List.take_add_one,I];show da (_++[_]) true=_;rw[tF,hs];simp only[List.append_assoc,List.nil_append]
theorem C8:∀ {j:JV},j.op=6→bt j=123::(bY j.keys j.kids true++[125])
 | .mk op n s keys kids,h=>by have h:op=6:=h;subst h;rw[bt];rfl
theorem Cc:∀ {j:JV},j.op≠1→j.op≠2→j.op≠3→j.op≠4→j.op≠6→bt j=91::(da j.kids true++[93])
 | .mk op n s keys kids,h1,h2,h3,h4,I=>by rw[bt,if_neg (show ¬ op=1 from h1),if_neg (show ¬ op=2 from h2),if_neg (show ¬ op=3 from h3),if_neg (show ¬ op=4 from h4),if_neg (show ¬ op=6 from I)];rfl
theorem uK {j:JV} (h1:j.op≠1) (h2:j.op≠2) (h3:j.op≠3) (h4:j.op≠4) (hl:j.op=6→j.keys.length=j.kids.length):bt j=nB j::(gp j j.kids.length++[tR j]):=by
 unfold nB gp tR;by_cases ho:j.op=6;·rw[C8 ho,if_pos ho,if_pos ho,if_pos ho,List.take_length,←hl ho,List.take_length]
 rw[Cc h1 h2 h3 h4 ho,if_neg ho,if_neg ho,if_neg ho,List.take_length]
theorem wG {j:JV} (hl:j.op=6→j.keys.length=j.kids.length):∀ (d k:Nat),k+d=j.kids.length→(gp j k).length≤(gp j j.kids.length).length
 | 0,k,h=>by rw[←h];simp
 | d+1,k,h=>by
  have I:k < j.kids.length:=by omega
  have h1:=nC (j:=j) (k:=k) (z:=j.kids[k]) (by simp[I]) hl;have h2:=wG hl d (k+1) (by omega);rw[h1] at h2;simp only[List.length_append] at h2;omega
theorem JG {j:JV} {lv:Int} (h:cv j lv=0):(1≤j.op∧j.op≤6)∧(j.op=2→j.n=0∨j.n=1)∧(j.op=3→eQ j.n=true)∧(j.op=6→j.keys.length=j.kids.length)∧(∀ z∈j.kids,cv z (lv+1)=0):=by
 rw[gu] at h;have h0:fN j lv=0:=by
  by_cases q:fN j lv=0;·exact q
  rw[if_pos q] at h;exact h
 rw[if_neg (by simp[h0])] at h;obtain⟨I,M,_⟩:=ie h0;have N:∀ l:List JV,dM l (lv+1)=0→∀ z∈l,cv z (lv+1)=0:=by
  intro l
  induction l with
  | nil=>intro _ z J;cases J
  | cons a l O=>
   intro U z J;obtain⟨h1,h2⟩:=ia U;rcases List.mem_cons.1 J with rfl | J
   ·exact h1
   exact O h2 z J
 refine⟨?_,?_,?_,?_,N _ h⟩;·
  unfold dy at I;by_cases e1:j.op=1;·omega
  rw[if_neg e1] at I;by_cases e2:j.op=2∨j.op=3;·omega
  rw[if_neg e2] at I;by_cases e4:j.op=4;·omega
  rw[if_neg e4] at I;by_cases e5:j.op=5;·omega
  rw[if_neg e5] at I;by_cases e6:j.op=6;·omega
  rw[if_neg e6] at I;cases I
 ·
  intro e;by_cases q0:j.n=0;·exact .inl q0
  by_cases q1:j.n=1;·exact .inr q1
  exact absurd (.inl ⟨e,q0,q1⟩) M
 ·
  intro e
  cases hi:eQ j.n with
  | true=>rfl
  | false=>exact absurd (.inr ⟨e,hi⟩) M
 intro e;unfold dy at I;rw[if_neg (by omega),if_neg (by omega),if_neg (by omega),if_neg (by omega),if_pos e] at I;simp only[Bool.and_eq_true,decide_eq_true_eq] at I;exact I.2.2
theorem Hn:∀ {j:JV},j.op=1→bt j=nR
 | .mk op n s keys kids,h=>by have h:op=1:=h;subst h;rw[bt];rfl
theorem Hb:∀ {j:JV},j.op=2→bt j=if j.n=1 then kL else jn
 | .mk op n s keys kids,h=>by have h:op=2:=h;subst h;rw[bt];rfl
theorem Ij:∀ {j:JV},j.op=3→bt j=bc (dZ j.n)
 | .mk op n s keys kids,h=>by have h:op=3:=h;subst h;rw[bt];rfl
theorem HY:∀ {j:JV},j.op=4→bt j=dh (bc j.s)
 | .mk op n s keys kids,h=>by have h:op=4:=h;subst h;rw[bt];rfl
theorem Hc {n:Int} (h:eQ n=true):-9223372036854775808≤n∧n≤9223372036854775807:=by unfold eQ at h;simp only[Bool.and_eq_true,decide_eq_true_eq] at h;omega
theorem HT {j:JV} {k:Nat} (I:j.op=6) (hl:j.keys.length=j.kids.length) (J:k < j.kids.length):∃ s,j.keys[k]? = some s∧gn j k=dh (bc s)++[58]:=by refine⟨j.keys[k],by rw[List.getElem?_eq_getElem],?_⟩;unfold gn;rw[if_pos I,List.getD_eq_getElem?_getD,List.getElem?_eq_getElem (by omega)];rfl
theorem v7 {j:JV} {k:Nat} {z:JV} (I:j.kids[k]? = some z) (hl:j.op=6→j.keys.length=j.kids.length):(gp j k).length+(dJ k).length+(gn j k).length+(bt z).length≤(gp j j.kids.length).length:=by have J:k < j.kids.length:=(List.getElem?_eq_some_iff.1 I).1;have h:=wG hl (j.kids.length - (k+1)) (k+1) (by omega);rw[nC I hl] at h;simp only[List.length_append] at h;omega
theorem mQ {u:Bool} {t s r:ByteArray} (e:t++bytesOf (dh (bc s))=r) (I:t.size+2*s.size+2≤140737488355328):cm Tryz.prog 138 [.ptr 0 0,.d (.v (.string s))] [[.np 0 tB u,.bf 1 tU t]] 1 (.tup []) [[.np 0 tB true,.bf 1 tU r]] 1:=e▸DE u t s I
theorem uE (l:List UInt8):(bytesOf l).size=l.length:=rfl
theorem Io {n:Int} (h:n=0∨n=1):([[cs (B #[102,97,108,115,101])],[cs (B #[116,114,117,101])]]:List (List D))[n.toNat]? = some [cs (bytesOf (if n=1 then kL else jn))]:=by rcases h with rfl | rfl <;> rfl
theorem AX (j:JV) (u:Bool) (t:ByteArray) (ih:∀ z∈j.kids,∀ (u:Bool) (t r:ByteArray),t++bytesOf (bt z)=r→t.size+2*(bt z).length+2≤140737488355328→cm Tryz.prog 89 [.ptr 0 0,.ag z.c] [[.np 0 tB u,.bf 1 tU t]] 1 (.tup []) [[.np 0 tB true,.bf 1 tU r]] 1) (hop:1≤j.op∧j.op≤6) (htwo:j.op=2→j.n=0∨j.n=1) (hnum:j.op=3→eQ j.n=true) (hlen6:j.op=6→j.keys.length=j.kids.length) (hz:t.size+2*(bt j).length+2≤140737488355328) (ho:j.op=6) :
  cm Tryz.prog 89 [.ptr 0 0,.ag j.c] [[.np 0 tB u,.bf 1 tU t]] 1 (.tup []) [[.np 0 tB true,.bf 1 tU (t++bytesOf (bt j))]] 1:=by
 have hO:nB j=123:=if_pos ho
 have hC':tR j=125:=if_pos ho
 rw[jQ j]
 refine cm.dQ aX (n:=74) (rs:=[]) Tryz.func89 (by kernel_rfl) rfl Tryz.ntmps89 Tryz.results89 rfl rfl fun C hC hG=>?_
 refine ae (aa (cG rfl rfl rfl (ab (qs (ba 2 rfl ?_)))))
 refine W.block (ba 2 rfl ?_)
 refine be rfl (fun h48=>?_) (fun h48=>?_)
 ·
  exfalso;simp at h48;omega
 refine ba 2 rfl ?_
 refine be rfl (fun h52=>?_) (fun h52=>?_)
 ·
  exfalso;simp at h52;omega
 refine ba 2 rfl ?_
 refine be rfl (fun h61=>?_) (fun h61=>?_)
 ·
  exfalso;simp at h61;omega
 refine ba 2 rfl ?_
 refine be rfl (fun h68=>?_) (fun h68=>?_)
 ·
  exfalso;simp at h68;omega
 have hg:=uK (j:=j) (by omega) (by omega) (by omega) (by omega) hlen6
 refine ba 1 rfl ?_
 refine ae (ba 3 rfl ?_)
 refine be rfl (fun h11=>?_) (fun h11=>?_)
 ·
  refine cQ 1 rfl ?_
  refine qs (ae (aa (aZ 2 rfl ?_)))
  refine pu (eU (b:=123) aX rfl rfl rfl rfl (by decide) rfl) rfl ?_
  refine bG [0] [1] rfl rfl rfl rfl rfl ((fv (c:=123) (s:=t) (m:=B #[123]) (r:=t++bytesOf [123]) rfl rfl (fR 123).2 (by omega))) rfl rfl (by rfl) (by rfl) rfl rfl rfl rfl ?_
  refine ab (qs (ae (ba 4 rfl ?_)))
  refine W.block (W.len (t:=17) rfl rfl (fun hlen=>?_))
  try simp only[List.length_map,Ex.bA] at hlen
  refine W.b7 (ι:={x:Nat×ByteArray // match x with | (k,T)=>k≤j.kids.length∧T=t++bytesOf (nB j::gp j k)})
   (fun x=>match x.1 with | (k,T)=>[(0,.ptr 0 0),(3,.ptr 2 0),(19,.d (.v (.int .i64 ((k:Nat):Int))))]) [(4,_),(17,_),(18,_)]
   (fun x=>match x.1 with | (k,T)=>[(0,[.np 0 tB true,.bf 1 tU T]),(2,[.d (ci j.op),.d (ci j.n),.d (cs j.s),.d (.sl (j.keys.map sc)),.d (.sl (j.kids.map JV.c))])]) [] [1] 3 (fun x=>match x.1 with | (k,T)=>j.kids.length - k)
   [0,4,2] ⟨(0,t++bytesOf [123]),?_⟩ rfl ?_ ⟨rfl,rfl,rfl,rfl,rfl,rfl,trivial⟩ ?_ trivial rfl ?_
  · exact⟨Nat.zero_le _,by rw[wD,hO]⟩
  · repeat' first | exact trivial | refine⟨rfl,?_⟩
  · repeat' first | exact trivial | refine⟨rfl,?_⟩
  rintro⟨⟨k,T⟩,hk,hI⟩
  show W _ _ _ _ _ ⟨[(0,.ptr 0 0),(3,.ptr 2 0),(19,.d (.v (.int .i64 ((k:Nat):Int)))),(4,_),(17,_),(18,_)],[(0,[.np 0 tB true,.bf 1 tU T]),(2,[.d (ci j.op),.d (ci j.n),.d (cs j.s),.d (.sl (j.keys.map sc)),.d (.sl (j.kids.map JV.c))])],[1],3⟩
  refine ba 1 rfl ?_
  refine ae (cB (l:=j.kids) (k:=k) rfl (by simp[Ex.bA,bk]) hk (fun z hx hd hlt=>?_) (fun he hd=>?_))
  ·
   have hp:=v7 hx hlen6
   have hst:=nC hx hlen6
   have hkl:k < j.kids.length:=hlt
   rw[hg] at hz
   simp only[List.length_cons,List.length_append,List.length_nil] at hz
   have hTs:T.size=t.size+(gp j k).length+1:=by rw[hI,fA];rfl
   have hxc:∀ {u:Bool} {t r:ByteArray},t++bytesOf (bt z)=r→t.size+2*(bt z).length+2≤140737488355328→cm Tryz.prog 89 [.ptr 0 0,.ag z.c] [[.np 0 tB u,.bf 1 tU t]] 1 (.tup []) [[.np 0 tB true,.bf 1 tU r]] 1:=fun {u t r}=>ih z (List.mem_of_getElem? hx) u t r
   have hN:T++bytesOf (dJ k)++bytesOf (gn j k)++bytesOf (bt z)=t++bytesOf (nB j::gp j (k+1)):=by
    rw[hI,lT,lT,lT,hst];simp only[List.append_assoc,List.cons_append]
   have hsepl:(dJ k).length≤1:=by unfold dJ;split <;> simp
   obtain⟨s,hks,hkq⟩:=HT ho (hlen6 ho) hkl
   have hkl2:(gn j k).length=(dh (bc s)).length+1:=by rw[hkq];simp
   have hsz:=xq s
   have hs0:(T++bytesOf (dJ k)).size≤T.size+1:=by rw[fA];omega
   refine ah (qs (ae (W.block (ae (aa (pE rfl (pu (indexAddr (l:=z.c) aX rfl rfl rfl rfl rfl rfl (Int.natCast_nonneg _) (bN hx) rfl) rfl ?_)))))))
   refine aZ 1 rfl ?_
   refine bK aX rfl rfl rfl (pE rfl (bl aX rfl rfl rfl rfl rfl rfl rfl rfl (ab (qs (ae (ba 2 rfl ?_))))))
   refine be rfl (fun h25=>?_) (fun h25=>?_)
   ·
    have hs4:bytesOf (dJ k)=B #[44]:=by unfold dJ;rw[if_neg (by simp at h25;omega)];rfl
    refine aa (pE rfl (bG [0] [1] rfl rfl rfl rfl rfl ((fv (c:=44) (s:=T) (m:=B #[44]) (r:=T++bytesOf (dJ k)) (by rw[hs4]) rfl (fR 44).2 (by omega))) rfl rfl (by rfl) (by rfl) rfl rfl rfl rfl ?_))
    refine ab (qs (ae (ba 3 rfl ?_)))
    refine be rfl (fun h30=>?_) (fun h30=>?_)
    ·
     refine ae (aa (aZ 4 rfl ?_))
     refine pu (indexAddr (l:=sc s) aX rfl rfl rfl rfl rfl rfl (Int.natCast_nonneg _) (bN hks) rfl) rfl ?_
     refine aZ 1 rfl ?_
     first | refine bG [0] [5] rfl rfl rfl rfl rfl (mQ (s:=s) (r:=T++bytesOf (dJ k)++bytesOf (dh (bc s))) (by first | rfl | rw[hs]) (by omega)) rfl rfl (by rfl) (by rfl) rfl rfl rfl rfl ?_ | refine bG [0] [1] rfl rfl rfl rfl rfl (mQ (s:=s) (r:=T++bytesOf (dJ k)++bytesOf (dh (bc s))) (by first | rfl | rw[hs]) (by omega)) rfl rfl (by rfl) (by rfl) rfl rfl rfl rfl ?_
     refine ab (qs (aa (pE rfl (bG [0] [7] rfl rfl rfl rfl rfl (fv (c:=58) (s:=T++bytesOf (dJ k)++bytesOf (dh (bc s))) (m:=B #[58]) (r:=T++bytesOf (dJ k)++bytesOf (gn j k)) (by rw[hkq,←lT];rfl) rfl (fR 58).2 (by rw[fA];omega)) rfl rfl (by rfl) (by rfl) rfl rfl rfl rfl ?_))))
     refine ab (qs (aa (aZ 2 rfl ?_)))
     refine bG [0] [9] rfl rfl rfl rfl rfl (hxc (t:=T++bytesOf (dJ k)++bytesOf (gn j k)) (r:=T++bytesOf (dJ k)++bytesOf (gn j k)++bytesOf (bt z)) rfl (by rw[fA];omega)) rfl rfl (by rfl) (by rfl) rfl rfl rfl rfl ?_
     refine ab (ca (qs (cQ 2 rfl ?_)))
     refine W.cr [0,11,2] ⟨(k+1,T++bytesOf (dJ k)++bytesOf (gn j k)++bytesOf (bt z)),?_⟩ ?_ rfl ?_ ⟨rfl,rfl,rfl,rfl,rfl,rfl,trivial⟩ ?_ trivial rfl
     · exact⟨hlt,hN⟩
     · dsimp only;omega
     · repeat' first | exact trivial | refine⟨rfl,?_⟩ | refine⟨bJ (by assumption) (by assumption),?_⟩
     repeat' first | exact trivial | refine⟨rfl,?_⟩
    exfalso;simp at h30;omega
   have hs:T++bytesOf (dJ k)=T:=by
    unfold dJ;rw[if_pos (by simp at h25;omega)]
    exact kn (by show bc _=bc _;rw[jm];simp)
   refine ah (qs (ae (ba 3 rfl ?_)))
   refine be rfl (fun h30=>?_) (fun h30=>?_)
   ·
    refine ae (aa (aZ 4 rfl ?_))
    refine pu (indexAddr (l:=sc s) aX rfl rfl rfl rfl rfl rfl (Int.natCast_nonneg _) (bN hks) rfl) rfl ?_
    refine aZ 1 rfl ?_
    first | refine bG [0] [5] rfl rfl rfl rfl rfl (mQ (s:=s) (r:=T++bytesOf (dJ k)++bytesOf (dh (bc s))) (by first | rfl | rw[hs]) (by omega)) rfl rfl (by rfl) (by rfl) rfl rfl rfl rfl ?_ | refine bG [0] [1] rfl rfl rfl rfl rfl (mQ (s:=s) (r:=T++bytesOf (dJ k)++bytesOf (dh (bc s))) (by first | rfl | rw[hs]) (by omega)) rfl rfl (by rfl) (by rfl) rfl rfl rfl rfl ?_
    refine ab (qs (aa (pE rfl (bG [0] [5] rfl rfl rfl rfl rfl (fv (c:=58) (s:=T++bytesOf (dJ k)++bytesOf (dh (bc s))) (m:=B #[58]) (r:=T++bytesOf (dJ k)++bytesOf (gn j k)) (by rw[hkq,←lT];rfl) rfl (fR 58).2 (by rw[fA];omega)) rfl rfl (by rfl) (by rfl) rfl rfl rfl rfl ?_))))
    refine ab (qs (aa (aZ 2 rfl ?_)))
    refine bG [0] [7] rfl rfl rfl rfl rfl (hxc (t:=T++bytesOf (dJ k)++bytesOf (gn j k)) (r:=T++bytesOf (dJ k)++bytesOf (gn j k)++bytesOf (bt z)) rfl (by rw[fA];omega)) rfl rfl (by rfl) (by rfl) rfl rfl rfl rfl ?_
    refine ab (ca (qs (cQ 2 rfl ?_)))
    refine W.cr [0,9,2] ⟨(k+1,T++bytesOf (dJ k)++bytesOf (gn j k)++bytesOf (bt z)),?_⟩ ?_ rfl ?_ ⟨rfl,rfl,rfl,rfl,rfl,rfl,trivial⟩ ?_ trivial rfl
    · exact⟨hlt,hN⟩
    · dsimp only;omega
    · repeat' first | exact trivial | refine⟨rfl,?_⟩ | refine⟨bJ (by assumption) (by assumption),?_⟩
    repeat' first | exact trivial | refine⟨rfl,?_⟩
   exfalso;simp at h30;omega
  have e:k=j.kids.length:=by have:=congrArg List.length hd;simp at this;omega
  have hTs:T.size=t.size+(gp j k).length+1:=by rw[hI,fA];rfl
  have hfin:T++B #[125]=t++bytesOf (bt j):=by
   rw[hI,hg,hC',show(B #[125])=bytesOf [125] from rfl,lT,e];rfl
  rw[hg] at hz
  simp only[List.length_cons,List.length_append,List.length_nil] at hz
  rw[←e] at hz
  refine an (bT (bR (bP (qs (aa (aZ 2 rfl ?_))))))
  refine pu (eU (b:=125) aX rfl rfl rfl rfl (by decide) rfl) rfl ?_
  refine bG [0] [1] rfl rfl rfl rfl rfl ((fv (c:=125) (s:=T) (m:=B #[125]) (r:=t++bytesOf (bt j)) hfin rfl (fR 125).2 (by omega))) rfl rfl (by rfl) (by rfl) rfl rfl rfl rfl ?_
  refine ab (ca (ak aX [4] trivial rfl rfl rfl rfl ?_ ?_))
  · exact⟨rfl,trivial⟩
  rfl
 exfalso;simp at h11;omega
theorem Be (j:JV) (u:Bool) (t:ByteArray) (ih:∀ z∈j.kids,∀ (u:Bool) (t r:ByteArray),t++bytesOf (bt z)=r→t.size+2*(bt z).length+2≤140737488355328→cm Tryz.prog 89 [.ptr 0 0,.ag z.c] [[.np 0 tB u,.bf 1 tU t]] 1 (.tup []) [[.np 0 tB true,.bf 1 tU r]] 1) (hop:1≤j.op∧j.op≤6) (htwo:j.op=2→j.n=0∨j.n=1) (hnum:j.op=3→eQ j.n=true) (hlen6:j.op=6→j.keys.length=j.kids.length) (hz:t.size+2*(bt j).length+2≤140737488355328) (ho:¬ j.op=6) :
  cm Tryz.prog 89 [.ptr 0 0,.ag j.c] [[.np 0 tB u,.bf 1 tU t]] 1 (.tup []) [[.np 0 tB true,.bf 1 tU (t++bytesOf (bt j))]] 1:=by
 have hO:nB j=91:=if_neg ho
 have hC':tR j=93:=if_neg ho
 rw[jQ j]
 refine cm.dQ aX (n:=74) (rs:=[]) Tryz.func89 (by kernel_rfl) rfl Tryz.ntmps89 Tryz.results89 rfl rfl fun C hC hG=>?_
 refine ae (aa (cG rfl rfl rfl (ab (qs (ba 2 rfl ?_)))))
 refine W.block (ba 2 rfl ?_)
 refine be rfl (fun h48=>?_) (fun h48=>?_)
 ·
  have e:j.op=1:=by simpa using h48
  have hg:=Hn e
  have hgl:(bt j).length=4:=by rw[hg];rfl
  refine aa (pE rfl (bG [0] [1] rfl rfl rfl rfl rfl ((lP (s:=t) (x:=B #[110,117,108,108]) (r:=t++bytesOf (bt j)) (by rw[hg];rfl) (by rw[show(B #[110,117,108,108]).size=4 from rfl];omega))) rfl rfl (by rfl) (by rfl) rfl rfl rfl rfl ?_))
  refine ab (ca (ak aX [4] trivial rfl rfl rfl rfl ?_ ?_))
  · exact⟨rfl,trivial⟩
  rfl
 have e1:j.op≠1:=by simpa using h48
 refine ba 2 rfl ?_
 refine be rfl (fun h52=>?_) (fun h52=>?_)
 ·
  have e:j.op=2:=by simpa using h52
  have hg:=Hb e
  have hn2:=htwo e
  refine aa (pE rfl (pu (b9 aX rfl rfl rfl rfl rfl rfl rfl rfl rfl) rfl ?_))
  refine aZ 2 rfl ?_
  refine pu (indexAddr (l:=[cs (bytesOf (if j.n=1 then kL else jn))]) aX rfl rfl rfl rfl rfl rfl (by omega) (Io hn2) rfl) rfl ?_
  refine aZ 1 rfl ?_
  refine bG [0] [1] rfl rfl rfl rfl rfl ((lP (s:=t) (x:=bytesOf (if j.n=1 then kL else jn)) (r:=t++bytesOf (bt j)) (by rw[hg]) (by rw[hg] at hz;rw[uE];omega))) rfl rfl (by rfl) (by rfl) rfl rfl rfl rfl ?_
  refine ab (ca (ak aX [4] trivial rfl rfl rfl rfl ?_ ?_))
  · exact⟨rfl,trivial⟩
  rfl
 have e2:j.op≠2:=by simpa using h52
 refine ba 2 rfl ?_
 refine be rfl (fun h61=>?_) (fun h61=>?_)
 ·
  have e:j.op=3:=by simpa using h61
  have hg:=Ij e
  have hi:=Hc (hnum e)
  refine aa (aZ 3 rfl ?_)
  refine pu (bm rfl rfl rfl (oy j.n hi.1 hi.2) rfl) rfl ?_
  refine bG [0] [1] rfl rfl rfl rfl rfl ((lP (s:=t) (x:=dZ j.n) (r:=t++bytesOf (bt j)) (by rw[hg,lz]) (by rw[hg,bk] at hz;omega))) rfl rfl (by rfl) (by rfl) rfl rfl rfl rfl ?_
  refine ab (ca (ak aX [4] trivial rfl rfl rfl rfl ?_ ?_))
  · exact⟨rfl,trivial⟩
  rfl
 have e3:j.op≠3:=by simpa using h61
 refine ba 2 rfl ?_
 refine be rfl (fun h68=>?_) (fun h68=>?_)
 ·
  have e:j.op=4:=by simpa using h68
  have hg:=HY e
  have hq:=xq j.s
  refine aa (aZ 3 rfl ?_)
  refine bG [0] [1] rfl rfl rfl rfl rfl ((mQ (t:=t) (s:=j.s) (r:=t++bytesOf (bt j)) (by rw[hg]) (by rw[hg] at hz;omega))) rfl rfl (by rfl) (by rfl) rfl rfl rfl rfl ?_
  refine ab (ca (ak aX [4] trivial rfl rfl rfl rfl ?_ ?_))
  · exact⟨rfl,trivial⟩
  rfl
 have e4:j.op≠4:=by simpa using h68
 have hg:=uK e1 e2 e3 e4 hlen6
 refine ba 1 rfl ?_
 refine ae (ba 3 rfl ?_)
 refine be rfl (fun h11=>?_) (fun h11=>?_)
 ·
  exfalso;simp at h11;omega
 refine ah (qs (ae (aa (aZ 2 rfl ?_))))
 refine pu (eU (b:=91) aX rfl rfl rfl rfl (by decide) rfl) rfl ?_
 refine bG [0] [1] rfl rfl rfl rfl rfl ((fv (c:=91) (s:=t) (m:=B #[91]) (r:=t++bytesOf [91]) rfl rfl (fR 91).2 (by omega))) rfl rfl (by rfl) (by rfl) rfl rfl rfl rfl ?_
 refine ab (qs (ae (ba 4 rfl ?_)))
 refine W.block (W.len (t:=17) rfl rfl (fun hlen=>?_))
 try simp only[List.length_map,Ex.bA] at hlen
 refine W.b7 (ι:={x:Nat×ByteArray // match x with | (k,T)=>k≤j.kids.length∧T=t++bytesOf (nB j::gp j k)})
  (fun x=>match x.1 with | (k,T)=>[(0,.ptr 0 0),(3,.ptr 2 0),(19,.d (.v (.int .i64 ((k:Nat):Int))))]) [(4,_),(17,_),(18,_)]
  (fun x=>match x.1 with | (k,T)=>[(0,[.np 0 tB true,.bf 1 tU T]),(2,[.d (ci j.op),.d (ci j.n),.d (cs j.s),.d (.sl (j.keys.map sc)),.d (.sl (j.kids.map JV.c))])]) [] [1] 3 (fun x=>match x.1 with | (k,T)=>j.kids.length - k)
  [0,4,2] ⟨(0,t++bytesOf [91]),?_⟩ rfl ?_ ⟨rfl,rfl,rfl,rfl,rfl,rfl,trivial⟩ ?_ trivial rfl ?_
 · exact⟨Nat.zero_le _,by rw[wD,hO]⟩
 · repeat' first | exact trivial | refine⟨rfl,?_⟩
 · repeat' first | exact trivial | refine⟨rfl,?_⟩
 rintro⟨⟨k,T⟩,hk,hI⟩
 show W _ _ _ _ _ ⟨[(0,.ptr 0 0),(3,.ptr 2 0),(19,.d (.v (.int .i64 ((k:Nat):Int)))),(4,_),(17,_),(18,_)],[(0,[.np 0 tB true,.bf 1 tU T]),(2,[.d (ci j.op),.d (ci j.n),.d (cs j.s),.d (.sl (j.keys.map sc)),.d (.sl (j.kids.map JV.c))])],[1],3⟩
 refine ba 1 rfl ?_
 refine ae (cB (l:=j.kids) (k:=k) rfl (by simp[Ex.bA,bk]) hk (fun z hx hd hlt=>?_) (fun he hd=>?_))
 ·
  have hp:=v7 hx hlen6
  have hst:=nC hx hlen6
  have hkl:k < j.kids.length:=hlt
  rw[hg] at hz
  simp only[List.length_cons,List.length_append,List.length_nil] at hz
  have hTs:T.size=t.size+(gp j k).length+1:=by rw[hI,fA];rfl
  have hxc:∀ {u:Bool} {t r:ByteArray},t++bytesOf (bt z)=r→t.size+2*(bt z).length+2≤140737488355328→cm Tryz.prog 89 [.ptr 0 0,.ag z.c] [[.np 0 tB u,.bf 1 tU t]] 1 (.tup []) [[.np 0 tB true,.bf 1 tU r]] 1:=fun {u t r}=>ih z (List.mem_of_getElem? hx) u t r
  have hN:T++bytesOf (dJ k)++bytesOf (gn j k)++bytesOf (bt z)=t++bytesOf (nB j::gp j (k+1)):=by
   rw[hI,lT,lT,lT,hst];simp only[List.append_assoc,List.cons_append]
  have hsepl:(dJ k).length≤1:=by unfold dJ;split <;> simp
  have hkq:T++bytesOf (dJ k)++bytesOf (gn j k)=T++bytesOf (dJ k):=by
   rw[show gn j k=[] from if_neg ho]
   exact kn (by show bc _=bc _;rw[jm];simp)
  have hs0:(T++bytesOf (dJ k)).size≤T.size+1:=by rw[fA];omega
  refine ah (qs (ae (W.block (ae (aa (pE rfl (pu (indexAddr (l:=z.c) aX rfl rfl rfl rfl rfl rfl (Int.natCast_nonneg _) (bN hx) rfl) rfl ?_)))))))
  refine aZ 1 rfl ?_
  refine bK aX rfl rfl rfl (pE rfl (bl aX rfl rfl rfl rfl rfl rfl rfl rfl (ab (qs (ae (ba 2 rfl ?_))))))
  refine be rfl (fun h25=>?_) (fun h25=>?_)
  ·
   have hs4:bytesOf (dJ k)=B #[44]:=by unfold dJ;rw[if_neg (by simp at h25;omega)];rfl
   refine aa (pE rfl (bG [0] [1] rfl rfl rfl rfl rfl ((fv (c:=44) (s:=T) (m:=B #[44]) (r:=T++bytesOf (dJ k)) (by rw[hs4]) rfl (fR 44).2 (by omega))) rfl rfl (by rfl) (by rfl) rfl rfl rfl rfl ?_))
   refine ab (qs (ae (ba 3 rfl ?_)))
   refine be rfl (fun h30=>?_) (fun h30=>?_)
   ·
    exfalso;simp at h30;omega
   refine ah (qs (aa (aZ 2 rfl ?_)))
   first | refine bG [0] [5] rfl rfl rfl rfl rfl (hxc (r:=T++bytesOf (dJ k)++bytesOf (gn j k)++bytesOf (bt z)) (by first | (rw[hkq];done) | rw[hkq,hs]) (by omega)) rfl rfl (by rfl) (by rfl) rfl rfl rfl rfl ?_ | refine bG [0] [1] rfl rfl rfl rfl rfl (hxc (r:=T++bytesOf (dJ k)++bytesOf (gn j k)++bytesOf (bt z)) (by first | (rw[hkq];done) | rw[hkq,hs]) (by omega)) rfl rfl (by rfl) (by rfl) rfl rfl rfl rfl ?_
   refine ab (ca (qs (cQ 2 rfl ?_)))
   refine W.cr [0,7,2] ⟨(k+1,T++bytesOf (dJ k)++bytesOf (gn j k)++bytesOf (bt z)),?_⟩ ?_ rfl ?_ ⟨rfl,rfl,rfl,rfl,rfl,rfl,trivial⟩ ?_ trivial rfl
   · exact⟨hlt,hN⟩
   · dsimp only;omega
   · repeat' first | exact trivial | refine⟨rfl,?_⟩ | refine⟨bJ (by assumption) (by assumption),?_⟩
   repeat' first | exact trivial | refine⟨rfl,?_⟩
  have hs:T++bytesOf (dJ k)=T:=by
   unfold dJ;rw[if_pos (by simp at h25;omega)]
   exact kn (by show bc _=bc _;rw[jm];simp)
  refine ah (qs (ae (ba 3 rfl ?_)))
  refine be rfl (fun h30=>?_) (fun h30=>?_)
  ·
   exfalso;simp at h30;omega
  refine ah (qs (aa (aZ 2 rfl ?_)))
  first | refine bG [0] [5] rfl rfl rfl rfl rfl (hxc (r:=T++bytesOf (dJ k)++bytesOf (gn j k)++bytesOf (bt z)) (by first | (rw[hkq];done) | rw[hkq,hs]) (by omega)) rfl rfl (by rfl) (by rfl) rfl rfl rfl rfl ?_ | refine bG [0] [1] rfl rfl rfl rfl rfl (hxc (r:=T++bytesOf (dJ k)++bytesOf (gn j k)++bytesOf (bt z)) (by first | (rw[hkq];done) | rw[hkq,hs]) (by omega)) rfl rfl (by rfl) (by rfl) rfl rfl rfl rfl ?_
  refine ab (ca (qs (cQ 2 rfl ?_)))
  refine W.cr [0,5,2] ⟨(k+1,T++bytesOf (dJ k)++bytesOf (gn j k)++bytesOf (bt z)),?_⟩ ?_ rfl ?_ ⟨rfl,rfl,rfl,rfl,rfl,rfl,trivial⟩ ?_ trivial rfl
  · exact⟨hlt,hN⟩
  · dsimp only;omega
  · repeat' first | exact trivial | refine⟨rfl,?_⟩ | refine⟨bJ (by assumption) (by assumption),?_⟩
  repeat' first | exact trivial | refine⟨rfl,?_⟩
 have e:k=j.kids.length:=by have:=congrArg List.length hd;simp at this;omega
 have hTs:T.size=t.size+(gp j k).length+1:=by rw[hI,fA];rfl
 have hfin:T++B #[93]=t++bytesOf (bt j):=by
  rw[hI,hg,hC',show(B #[93])=bytesOf [93] from rfl,lT,e];rfl
 rw[hg] at hz
 simp only[List.length_cons,List.length_append,List.length_nil] at hz
 rw[←e] at hz
 refine an (bT (bR (bP (qs (aa (aZ 2 rfl ?_))))))
 refine pu (eU (b:=93) aX rfl rfl rfl rfl (by decide) rfl) rfl ?_
 refine bG [0] [1] rfl rfl rfl rfl rfl ((fv (c:=93) (s:=T) (m:=B #[93]) (r:=t++bytesOf (bt j)) hfin rfl (fR 93).2 (by omega))) rfl rfl (by rfl) (by rfl) rfl rfl rfl rfl ?_
 refine ab (ca (ak aX [4] trivial rfl rfl rfl rfl ?_ ?_))
 · exact⟨rfl,trivial⟩
 rfl
theorem Cd:∀ (j:JV) (lv:Int),cv j lv=0→∀ (u:Bool) (t r:ByteArray),t++bytesOf (bt j)=r→t.size+2*(bt j).length+2≤140737488355328→cm Tryz.prog 89 [.ptr 0 0,.ag j.c] [[.np 0 tB u,.bf 1 tU t]] 1 (.tup []) [[.np 0 tB true,.bf 1 tU r]] 1:=by
 refine aI fun j U=>?_;intro lv hc u t r e X;subst e;obtain⟨O,M,N,I,J⟩:=JG hc;by_cases ho:j.op=6;·exact AX j u t (fun z h1=>U z h1 _ (J z h1)) O M N I X ho
 exact Be j u t (fun z h1=>U z h1 _ (J z h1)) O M N I X ho
def kH (j:JV):ByteArray:=if cv j 1=0 then bytesOf (bt j) else B #[]
theorem AL (j:JV) (O:cv j 1=0→(bt j).length≤1000000000000):rn Tryz.prog (fun _=>True) 38 [.ag j.c] (.tup [.d (.v (.string (kH j))),.d (.v (.int .i64 (cv j 1)))]) 0:=by
 have M:=vZ j;rw[jQ j] at M ⊢;refine rn.dQ aX (n:=14) (rs:=[.tmp 2,.tmp 3]) Tryz.func38 (by kernel_rfl) Z Tryz.ntmps38 Tryz.results38 Z fun C hC X hH N=>?_;refine ae (aa (cG Z Z Z (aZ 2 Z ?_)));refine ab (qs ?_);iterate 2 refine ae ?_
 refine aa (aZ 1 Z ?_);refine pu (bm Z Z Z M Z) Z ?_;refine pE Z (ab (qs (ba 2 Z ?_)));refine be Z (fun I=>?_) (fun I=>?_);·
  have J:kH j=B #[]:=by unfold kH;rw[if_neg (by simpa using I)]
  refine ba 3 Z ?_;refine W.ret (bo (QV.br aX trivial Z ?_));rw[J];rfl
 have h0:cv j 1=0:=by simpa using I
 have J:kH j=bytesOf (bt j):=by unfold kH;rw[if_pos h0]
 have U:=O h0;refine ah (qs (ae (aa (Cb aX tU Z Z Z ?_))));refine ab (qs (ae (aa (aZ 1 Z ?_))));refine bG [1] [2] Z Z Z Z Z (((congrArg (fun c=>cm Tryz.prog 89 [.ptr 0 0,.ag c] [[.np 0 tB false,.bf 1 tU .empty]] 1 (.tup []) [[.np 0 tB true,.bf 1 tU (bytesOf (bt j))]] 1) (jQ j)).mp (Cd j 1 h0 false .empty (bytesOf (bt j)) (kn Z) (by rw[show(ByteArray.empty).size=0 from rfl];omega)))) Z Z (by rfl) (by rfl) Z Z Z Z ?_;refine ab (qs (ae (aa (Hh N Z Z Z Z BN z8 (by rw[uE];simp only[maxLen];omega) Z ?_))));refine aZ 2 Z ?_;refine ab (qs (W.ret (QV.br aX trivial Z ?_)));rw[J,h0];rfl
theorem B6 (j:JV) (I:cv j 1=0→(bt j).length≤1000000000000):bq Tryz.prog 38 [.ag j.c] (.tup [.d (.v (.string (kH j))),.d (.v (.int .i64 (cv j 1)))]) 0:=(AL j I).DL fun _=>trivial
end Go.Proofs.YtpiaiiopakafhaaGreatDoor
