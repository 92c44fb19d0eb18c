import Derived.Test.YtpiaiiopakafhaaGreatDoorQ4
import Derived.Test.YtpiaiiopakafhaaGreatDoorChecked
import Derived.KernelRfl
import Derived.Test.YtpiaiiopakafhaaGreatDoorRows
import Derived.Shelf.Strings.Builder1
import Derived.Shelf.Small.Strs
import Derived.Shelf.Strconv.Atoi
import Derived.Shelf.Strconv.Itoa0
import Derived.Shelf.Strconv.Itoa1
import Derived.Shelf.LaysM
import Derived.Shelf.Strconv.Itoa2
import Derived.Shelf.Strconv.Itoa3
import Derived.Shelf.Strconv.AtoiErrFast
import Derived.Shelf.Strconv.ParseIntEmpty
import Derived.Shelf.Strconv.AtoiFail
import Derived.Shelf.Strconv.Clone
import Derived.Shelf.Strconv.SyntaxError
import Derived.Shelf.LaysC
import Derived.Shelf.Strconv.ToError
import Derived.Shelf.Strconv.AtoiErr
import Derived.Shelf.Strconv.ErrVar
import Derived.Shelf.Strconv.Lower
import Derived.Shelf.Strconv.ParseUint10
import Derived.Shelf.Strconv.ParseUint10Empty
import Derived.Shelf.Strconv.ParseUint10Any
import Derived.Shelf.Strconv.ParseInt10
import Derived.Shelf.Strconv.AtoiLong
import Derived.Shelf.Strconv.AtoiInnerAll
import Derived.Shelf.Strconv.RangeError
import Derived.Shelf.Strconv.ToErrorRange
import Derived.Shelf.Strconv.AtoiAll
import Derived.Shelf.Strconv.ErrVarAll
import Derived.Shelf.Strings.Search1
import Derived.Shelf.Slices.Equal
import Derived.Shelf.Slices.Empties2
import Derived.Test.YtpiaiiopakafhaaGreatDoorProg
import Derived.Lib.Strings
import Derived.Lib.Slices
import Derived.Lib.Walk
import Derived.Lib.Builder
import Derived.Lib.UnsafeStr
import Derived.WalkKit
import Derived.Laws.Externs
import Derived.Laws.IdiomCopy
import Derived.OwnWalkIn
import Derived.TacticsInMore
import Derived.LoopNIn
import Derived.LoopIn
import Derived.BigRegionIn
namespace Go.Proofs.YtpiaiiopakafhaaGreatDoor
open Go.Ab
abbrev Eh:List (Nat×bH):=[
 (2,⟨.int .i64,1,8,[.int .i64 0]⟩),
 (3,⟨.int .i64,1,8,[.int .i64 0]⟩),
 (4,⟨.bool,1,1,[.bool false]⟩),
 (5,⟨.int .u8,1,1,[.int .u8 0]⟩),
 (9,⟨.str,1,16,[.string ⟨#[]⟩]⟩),
 (12,⟨.int .u64,1,8,[.int .u64 0]⟩),
 (21,⟨.int .i32,1,4,[.int .i32 0]⟩),
 (23,⟨.slice 56,1,24,[.slice none 0 0]⟩),
 (24,⟨.slice 59,1,24,[.slice none 0 0]⟩),
 (25,⟨.slice 97,1,24,[.slice none 0 0]⟩),
 (27,⟨.st [(0,23, "Threads"),(1,24, "Domains"),(2,25, "Snaps")],3,72,[.slice none 0 0,.slice none 0 0,.slice none 0 0]⟩),
 (28,⟨.slice 61,1,24,[.slice none 0 0]⟩),
 (30,⟨.st [(0,27, "Head"),(3,28, "Parts")],4,96,[.slice none 0 0,.slice none 0 0,.slice none 0 0,.slice none 0 0]⟩),
 (31,⟨.int .i64,1,8,[.int .i64 0]⟩),
 (36,⟨.slice 86,1,24,[.slice none 0 0]⟩),
 (42,⟨.int .i64,1,8,[.int .i64 0]⟩),
 (43,⟨.slice 9,1,24,[.slice none 0 0]⟩),
 (44,⟨.slice 46,1,24,[.slice none 0 0]⟩),
 (46,⟨.st [(0,42, "Op"),(1,3, "N"),(2,9, "S"),(3,43, "Keys"),(4,44, "Kids")],5,80,[.int .i64 0,.int .i64 0,.string ⟨#[]⟩,.slice none 0 0,.slice none 0 0]⟩),
 (48,⟨.int .i64,1,8,[.int .i64 0]⟩),
 (50,⟨.st [(0,3, "At"),(1,48, "Kind"),(2,9, "Name"),(3,3, "N"),(4,3, "M"),(5,43, "Stack")],6,72,[.int .i64 0,.int .i64 0,.string ⟨#[]⟩,.int .i64 0,.int .i64 0,.slice none 0 0]⟩),
 (56,⟨.st [(0,3, "Id"),(1,9, "Name"),(2,3, "Domain")],3,32,[.int .i64 0,.string ⟨#[]⟩,.int .i64 0]⟩),
 (57,⟨.slice 50,1,24,[.slice none 0 0]⟩),
 (59,⟨.st [(0,3, "Id"),(1,3, "Ppm")],2,16,[.int .i64 0,.int .i64 0]⟩),
 (61,⟨.st [(0,3, "Thread"),(1,3, "Serial"),(2,3, "Lost"),(3,57, "Events")],4,48,[.int .i64 0,.int .i64 0,.int .i64 0,.slice none 0 0]⟩),
 (66,⟨.ptr 71,1,8,[.pointer none]⟩),
 (67,⟨.map 3 9,1,8,[.map none]⟩),
 (68,⟨.map 3 57,1,8,[.map none]⟩),
 (69,⟨.slice 3,1,24,[.slice none 0 0]⟩),
 (71,⟨.st [(0,69, "ids"),(1,67, "names"),(2,68, "events")],3,40,[.slice none 0 0,.map none,.map none]⟩),
 (77,⟨.slice 57,1,24,[.slice none 0 0]⟩),
 (86,⟨.st [(0,3, "Thread"),(1,3, "Serial"),(2,3, "Count")],3,24,[.int .i64 0,.int .i64 0,.int .i64 0]⟩),
 (95,⟨.st [(0,3, "Lo"),(1,3, "Hi")],2,16,[.int .i64 0,.int .i64 0]⟩),
 (97,⟨.st [(0,3, "A"),(1,3, "AtA"),(2,3, "B"),(3,95, "AtB")],5,40,[.int .i64 0,.int .i64 0,.int .i64 0,.int .i64 0,.int .i64 0]⟩),
 (100,⟨.ptr 102,1,8,[.pointer none]⟩),
 (102,⟨.st [(0,46, "j"),(5,4, "bad")],6,88,[.int .i64 0,.int .i64 0,.string ⟨#[]⟩,.slice none 0 0,.slice none 0 0,.bool false]⟩),
 (106,⟨.slice 108,1,24,[.slice none 0 0]⟩),
 (108,⟨.st [(0,9, "ph"),(1,48, "kind"),(2,4, "name"),(3,9, "n"),(4,9, "m"),(5,4, "hasStack")],6,72,[.string ⟨#[]⟩,.int .i64 0,.bool false,.string ⟨#[]⟩,.string ⟨#[]⟩,.bool false]⟩),
 (125,⟨.map 3 28,1,8,[.map none]⟩),
 (128,⟨.st [(0,3, "at"),(1,31, "why")],2,16,[.int .i64 0,.int .i64 0]⟩),
 (130,⟨.ptr 132,1,8,[.pointer none]⟩),
 (132,⟨.st [(0,9, "s"),(1,3, "at")],2,24,[.string ⟨#[]⟩,.int .i64 0]⟩),
 (138,⟨.ptr 140,1,8,[.pointer none]⟩),
 (140,⟨.st [(0,9, "S"),(1,3, "At"),(2,3, "Pos"),(3,31, "Err")],4,40,[.string ⟨#[]⟩,.int .i64 0,.int .i64 0,.int .i64 0]⟩),
 (147,⟨.ptr 150,1,8,[.pointer none]⟩),
 (148,⟨.slice 5,1,24,[.slice none 0 0]⟩),
 (150,⟨.st [(0,147, "addr"),(1,148, "buf")],2,32,[.pointer none,.slice none 0 0]⟩),
 (160,⟨.st [(0,9, "word"),(1,4, "name"),(2,4, "n"),(3,4, "m"),(4,4, "stack"),(5,3, "least"),(6,3, "most"),(7,3, "mLeast"),(8,3, "mMost")],9,56,[.string ⟨#[]⟩,.bool false,.bool false,.bool false,.bool false,.int .i64 0,.int .i64 0,.int .i64 0,.int .i64 0]⟩),
 (169,⟨.map 3 4,1,8,[.map none]⟩),
 (174,⟨.map 3 175,1,8,[.map none]⟩),
 (175,⟨.ptr 177,1,8,[.pointer none]⟩),
 (177,⟨.st [(0,3, "next"),(1,3, "last")],2,16,[.int .i64 0,.int .i64 0]⟩),
 (181,⟨.ptr 61,1,8,[.pointer none]⟩),
 (201,⟨.ptr 5,1,8,[.pointer none]⟩),
 (205,⟨.slice 160,1,24,[.slice none 0 0]⟩),
 (212,⟨.map 9 4,1,8,[.map none]⟩),
 (220,⟨.int .u64,1,8,[.int .u64 0]⟩),
 (231,⟨.int .u32,1,4,[.int .u32 0]⟩),
 (233,⟨.int .u64,1,8,[.int .u64 0]⟩),
 (236,⟨.int .i64,1,8,[.int .i64 0]⟩),
 (239,⟨.ptr 246,1,8,[.pointer none]⟩),
 (251,⟨.ptr 253,1,8,[.pointer none]⟩),
 (253,⟨.st [(0,9, "s")],1,16,[.string ⟨#[]⟩]⟩)]
theorem DD:Eh.all (fun x=>uO Tryz.prog x.1 x.2)=true:=by kernel_rfl
abbrev aa:bA Tryz.prog:=⟨Eh,DD,by kernel_rfl⟩
instance F8:Go.Ab.cc Tryz.prog:=⟨fun W=>l8 Tryz.prog W⟩
section
variable {C:Ctx} {n:Nat} {ops:Array Oper} {Q:Exit→St→Prop} {rest:List Oper} {f:List (Nat×A)} {bx:List (Nat×List A)} {lv:List Nat} {gen d:Nat} {ty:TypeId} {pos:String} {af:Array Edge} {a:A}
theorem pE {op:Op} (h:Bool.rec (motive:=fun _=>Option A) none (iv aa f bx op) (Nat.blt d n)=some a) (k:WO Tryz.prog C n ops Q rest ⟨(d,a)::f,bx,lv,gen⟩):WO Tryz.prog C n ops Q (⟨some d,op,ty,pos,af,none⟩::rest) ⟨f,bx,lv,gen⟩:=by
 cases hb:Nat.blt d n with
 | false=>rw[hb] at h;exact absurd h (by simp)
 | true=>rw[hb] at h;exact pu (ev aa h) hb k
theorem pR {t:Nat} {x:Operand} {I:bH} {l:List D} (J:ae aa.l t=some I) (M:I.k.agg=true) (N:av f x=some (.rowd l)) (hl:l.length=I.n) (hd:Nat.blt d n=true) (k:WO Tryz.prog C n ops Q rest ⟨(d,.ag l)::f,bx,lv,gen⟩):WO Tryz.prog C n ops Q (⟨some d,.load t x,ty,pos,af,none⟩::rest) ⟨f,bx,lv,gen⟩:=pu (dD aa J M N hl) hd k
theorem pB {t:Nat} {x:Operand} {I:bH} {g:Nat} {l:List D} (J:ae aa.l t=some I) (M:I.k.agg=true) (N:av f x=some (.ptr g 0)) (hb:ae bx g=some (l.map A.d)) (hl:l.length=I.n) (hd:Nat.blt d n=true) (k:WO Tryz.prog C n ops Q rest ⟨(d,.ag l)::f,bx,lv,gen⟩):WO Tryz.prog C n ops Q (⟨some d,.load t x,ty,pos,af,none⟩::rest) ⟨f,bx,lv,gen⟩:=pu (dE aa J M N hb hl) hd k
end
end Go.Proofs.YtpiaiiopakafhaaGreatDoor
namespace Go.Proofs.YtpiaiiopakafhaaGreatDoor
open Go.Ab
theorem FQ (W:World) (h:laidMet Tryz.prog Rows.chromeSingleRow.laid W):l8 Tryz.prog W:=
 Ai (t:=230) (e:=220) (m:=20) (ti:=196) h (d:=Rows.laid_internal_strconv_uint64pow10) (.tail _ (.tail _ (.head _))) (by kernel_rfl) (by kernel_rfl) (by kernel_rfl) (by kernel_rfl) (by kernel_rfl) (by kernel_rfl)
  (nm := "*errors.errorString") (nm' := "*errors.errorString") (.tail _ (.tail _ (.tail _ (.tail _ (.head _))))) (.tail _ (.tail _ (.tail _ (.head _)))) (by kernel_rfl) (by kernel_rfl) (by kernel_rfl)
end Go.Proofs.YtpiaiiopakafhaaGreatDoor
namespace Go.Proofs.YtpiaiiopakafhaaGreatDoor
open Go.Ab Go.Tb
set_option maxRecDepth 10000
set_option maxHeartbeats 1000000
attribute [local irreducible] W WO Pu QS QB QL QF QV bu CH QE
theorem B8 (n:Int):az Tryz.prog 143 [.d (.v (.int .i64 n))] (.d (.v (.bool (cY n)))) 0:=by
 refine az.bl (n:=9) (ts:=[2]) Tryz.func143 (by kernel_rfl) rfl Tryz.ntmps143 Tryz.results143 rfl rfl fun C hC I=>?_;refine W.seq (W.region (pE rfl (WO.nil (qs (W.seq ?_)))));apply aO;(case hb=>rfl);·repeat' first | refine bt rfl rfl rfl | refine aG rfl rfl ?_ | refine aD rfl rfl rfl rfl ?_ | refine pE rfl ?_ | refine WO.nil ?_ | (apply bj;(case hj=>rfl);(case hl=>rfl))
 refine qs (W.ret (QF.aB trivial rfl ?_));simp[norm,aT,cY]
end Go.Proofs.YtpiaiiopakafhaaGreatDoor
namespace Go.Proofs.YtpiaiiopakafhaaGreatDoor
open Go.Ab Go.Tb
set_option maxRecDepth 10000
set_option maxHeartbeats 1000000
attribute [local irreducible] W WO Pu QS QB QL QF QV bu CH QE
theorem Ao (fid:Nat) (caps:List A) (I:Still caps) (p:ByteArray→Bool) (hp:∀ x:ByteArray,az Tryz.prog fid (.d (.v (.string x))::caps) (.d (.v (.bool (p x)))) 0) (l:List ByteArray) :
 az Tryz.prog 148 [.d (.sl (l.map sc)),.clo fid caps] (.d (.v (.int .i64 (idx (l.findIdx? p))))) 0:=by
 refine az.bl (n:=19) (ts:=[4]) Tryz.func148 (by kernel_rfl) rfl Tryz.ntmps148 Tryz.results148 rfl rfl fun C hC X=>?_;refine W.seq (W.region (pE rfl (WO.nil (qs ?_))));iterate 2 refine W.seq ?_
 refine W.region ?_;iterate 3 refine pE rfl ?_
 refine WO.nil (qs (W.block (W.len (t:=0) rfl rfl (fun hlen=>?_))));try simp only[List.length_map,Ex.aF] at hlen
 refine W.bF (ι:={x:Nat // match x with | k=>k≤l.length∧bX p l k})
  (fun x=>match x.1 with | k=>[(8,.d (.v (.int .i64 ((k:Nat):Int))))]) [(0,_),(1,_),(7,_)]
  (fun x=>match x.1 with | k=>[]) [] [] 0 (fun x=>match x.1 with | k=>l.length - k)
  [] ⟨0,?_⟩ rfl ?_ ⟨rfl,(by first | rfl | exact I.2),rfl,(by first | rfl | exact I.2),rfl,(by first | rfl | exact I.2),trivial⟩ ?_ trivial rfl ?_
 ·exact⟨Nat.zero_le _,bX.zero⟩
 ·repeat' first | exact trivial | refine⟨rfl,?_⟩
 ·repeat' exact trivial
 rintro⟨k,U,M⟩;show W _ _ _ _ _ ⟨[(8,.d (.v (.int .i64 ((k:Nat):Int)))),(0,_),(1,_),(7,_)],[],[],0⟩;refine W.seq (W.region (pE rfl (WO.nil (qs (W.seq (ca (l:=l) (k:=k) rfl (by simp[Ex.aF,aw]) U (fun x N hd O=>?_) (fun he hd=>?_)))))));·
  refine W.skip (qs (W.seq (W.block (W.seq (W.region ?_)))));iterate 2 refine pE rfl ?_
  refine WO.nil (qs (W.seq (W.region ?_)));iterate 3 refine pE rfl ?_
  refine pu (indexAddr aa rfl rfl rfl rfl rfl rfl (Int.natCast_nonneg _) (aV (by assumption)) rfl) rfl ?_;refine pE rfl (pu (ay rfl rfl (by rw[List.map_append,I.1 _ 3];rfl) (hp x) rfl) rfl ?_);refine WO.nil (qs (an rfl (fun J=>?_) (fun J=>?_)));·
   refine W.seq (W.region ?_);iterate 2 refine pE rfl ?_
   refine WO.nil (qs (W.ret (aJ (aA (dV (aJ (aA (QF.aB trivial rfl ?_))))))));simp only[norm,aT];rw[M.found N J];rfl
  refine W.skip (bz (qs (W.region ?_)));iterate 2 refine pE rfl ?_
  refine WO.nil (W.bU [] ⟨k+1,?_⟩ ?_ rfl ?_ ⟨rfl,(by first | rfl | exact I.2),rfl,(by first | rfl | exact I.2),rfl,(by first | rfl | exact I.2),trivial⟩ ?_ trivial rfl);·exact⟨O,M.step N J⟩
  ·dsimp only;omega
  ·repeat' first | exact trivial | refine⟨aP (by assumption) (by assumption),?_⟩
  repeat' exact trivial
 refine W.exit (bb (be (ba (qs (W.seq (W.region (pE rfl (WO.nil (qs (W.ret (QF.aB trivial rfl ?_)))))))))));simp only[norm,aT];rw[M.end_ he];rfl
theorem vh (l:List ByteArray) (s:ByteArray):az Tryz.prog 147 [.d (.sl (l.map sc)),.d (.v (.string s))] (.d (.v (.int .i64 (idx (l.findIdx? fun x=>decide (s=x)))))) 0:=by
 refine az.bl (n:=19) (ts:=[4]) Tryz.func147 (by kernel_rfl) rfl Tryz.ntmps147 Tryz.results147 rfl rfl fun C hC U=>?_;refine W.seq (W.region (pE rfl (WO.nil (qs ?_))));iterate 2 refine W.seq ?_
 refine W.region ?_;iterate 3 refine pE rfl ?_
 refine WO.nil (qs (W.block (W.len (t:=0) rfl rfl (fun hlen=>?_))));try simp only[List.length_map,Ex.aF] at hlen
 refine W.bF (ι:={x:Nat // match x with | k=>k≤l.length∧bX (fun x=>decide (s=x)) l k})
  (fun x=>match x.1 with | k=>[(8,.d (.v (.int .i64 ((k:Nat):Int))))]) [(0,_),(1,_),(7,_)]
  (fun x=>match x.1 with | k=>[]) [] [] 0 (fun x=>match x.1 with | k=>l.length - k)
  [] ⟨0,?_⟩ rfl ?_ ⟨rfl,rfl,rfl,rfl,rfl,rfl,trivial⟩ ?_ trivial rfl ?_
 ·exact⟨Nat.zero_le _,bX.zero⟩
 ·repeat' first | exact trivial | refine⟨rfl,?_⟩
 ·repeat' exact trivial
 rintro⟨k,O,J⟩;show W _ _ _ _ _ ⟨[(8,.d (.v (.int .i64 ((k:Nat):Int)))),(0,_),(1,_),(7,_)],[],[],0⟩;refine W.seq (W.region (pE rfl (WO.nil (qs (W.seq (ca (l:=l) (k:=k) rfl (by simp[Ex.aF,aw]) O (fun x M hd N=>?_) (fun he hd=>?_)))))));·
  refine W.skip (qs (W.seq (W.block (W.seq (W.region ?_)))));iterate 2 refine pE rfl ?_
  refine WO.nil (qs (W.seq (W.region ?_)));iterate 3 refine pE rfl ?_
  refine pu (indexAddr aa rfl rfl rfl rfl rfl rfl (Int.natCast_nonneg _) (aV (by assumption)) rfl) rfl ?_;refine pE rfl (pE rfl (WO.nil (qs (an rfl (fun I=>?_) (fun I=>?_)))));·
   refine W.seq (W.region ?_);iterate 2 refine pE rfl ?_
   refine WO.nil (qs (W.ret (aJ (aA (dV (aJ (aA (QF.aB trivial rfl ?_))))))));simp only[norm,aT];rw[J.found M I];rfl
  refine W.skip (bz (qs (W.region ?_)));iterate 2 refine pE rfl ?_
  refine WO.nil (W.bU [] ⟨k+1,?_⟩ ?_ rfl ?_ ⟨rfl,rfl,rfl,rfl,rfl,rfl,trivial⟩ ?_ trivial rfl);·exact⟨N,J.step M I⟩
  ·dsimp only;omega
  ·repeat' first | exact trivial | refine⟨aP (by assumption) (by assumption),?_⟩
  repeat' exact trivial
 refine W.exit (bb (be (ba (qs (W.seq (W.region (pE rfl (WO.nil (qs (W.ret (QF.aB trivial rfl ?_)))))))))));simp only[norm,aT];rw[J.end_ he];rfl
theorem wj (l:List ByteArray) (s:ByteArray):az Tryz.prog 99 [.d (.sl (l.map sc)),.d (.v (.string s))] (.d (.v (.bool (l.any fun x=>decide (s=x))))) 0:=by
 refine az.bl (n:=9) (ts:=[4]) Tryz.func99 (by kernel_rfl) rfl Tryz.ntmps99 Tryz.results99 rfl rfl fun C hC I=>?_;refine W.seq (W.region (pE rfl (WO.nil (qs (W.seq (W.region ?_))))));iterate 2 refine pE rfl ?_
 refine pu (ay rfl rfl rfl (vh ..) rfl) rfl ?_;iterate 2 refine pE rfl ?_
 refine WO.nil (qs (W.ret (QF.aB trivial rfl ?_)));simp only[norm,aT];rw[←iS]
theorem su (fid:Nat) (caps:List A) (I:Still caps) (p:ByteArray→Bool) (hp:∀ x:ByteArray,az Tryz.prog fid (.d (.v (.string x))::caps) (.d (.v (.bool (p x)))) 0) (l:List ByteArray) :
 az Tryz.prog 97 [.d (.sl (l.map sc)),.clo fid caps] (.d (.v (.bool (l.any p)))) 0:=by
 refine az.bl (n:=9) (ts:=[4]) Tryz.func97 (by kernel_rfl) rfl Tryz.ntmps97 Tryz.results97 rfl rfl fun C hC J=>?_;refine W.seq (W.region (pE rfl (WO.nil (qs (W.seq (W.region ?_))))));iterate 2 refine pE rfl ?_
 refine pu (ay (args:=[.d (.sl (l.map sc)),.clo fid caps]) rfl rfl (by simp[conv,I.1 _ 2]) (Ao fid caps I p hp l) rfl) rfl ?_;iterate 2 refine pE rfl ?_
 refine WO.nil (qs (W.ret (QF.aB trivial rfl ?_)));simp only[norm,aT];rw[←iS]
end Go.Proofs.YtpiaiiopakafhaaGreatDoor
namespace Go.Proofs.YtpiaiiopakafhaaGreatDoor
open Go.Ab Go.Tb
set_option maxRecDepth 10000
set_option maxHeartbeats 1000000
attribute [local irreducible] W WO Pu QS QB QL QF QV bu CH QE
theorem DW (s:ByteArray) (b:UInt8):az Tryz.prog 161 [.d (.v (.string s)),.d (.v (.int .u8 b.toNat))] (.d (.v (.int .i64 (Lib.indexByte (ah s) b)))) 0:=by
 refine az.bl (n:=8) (ts:=[4]) Tryz.func161 (by kernel_rfl) rfl Tryz.ntmps161 Tryz.results161 rfl rfl fun C hC I=>?_;refine W.l9 (t:=0) rfl (fun hok=>?_);refine W.seq (W.region (pE rfl (WO.nil (qs (W.seq (W.region ?_))))));iterate 2 refine pE rfl ?_
 refine pu (Fo (vs:=[.string s,.int .u8 b.toNat]) rfl rfl (fun w=>(run_callFunc_extern Tryz.func179 (by kernel_rfl) (by kernel_rfl) (by kernel_rfl) (by kernel_rfl) #[.string s,.int .u8 b.toNat] w).trans (by rw[show(Extern.BytealgIndexByte.indexByte #[.string s,.int .u8 b.toNat]).run Tryz.prog w=_ from Lib.run_indexByteString s b.toNat w];rfl)) (uw hok _)) rfl ?_;refine pE rfl (WO.nil (qs (W.ret (QF.aB trivial rfl ?_))));simp[norm,aT,ah]
theorem xk (s:ByteArray) (b:UInt8):az Tryz.prog 119 [.d (.v (.string s)),.d (.v (.int .u8 b.toNat))] (.d (.v (.int .i64 (Lib.indexByte (ah s) b)))) 0:=by
 refine az.bl (n:=8) (ts:=[4]) Tryz.func119 (by kernel_rfl) rfl Tryz.ntmps119 Tryz.results119 rfl rfl fun C hC I=>?_;refine W.seq (W.region (pE rfl (WO.nil (qs (W.seq (W.region ?_))))));iterate 2 refine pE rfl ?_
 refine pu (ay rfl rfl rfl (DW ..) rfl) rfl ?_;refine pE rfl (WO.nil (qs (W.ret (QF.aB trivial rfl ?_))));rfl
theorem As (b:UInt8):az Tryz.prog 122 [.d (.v (.int .u8 b.toNat))] (.d (.v (.bool (gS b)))) 0:=by
 refine az.bl (n:=30) (ts:=[2]) Tryz.func122 (by kernel_rfl) rfl Tryz.ntmps122 Tryz.results122 rfl rfl fun C hC I=>?_;refine W.seq (W.region (pE rfl (WO.nil (qs (W.seq ?_)))));apply aO;(case hb=>rfl);·repeat' first | refine bt rfl rfl rfl | refine aG rfl rfl ?_ | refine aD rfl rfl rfl rfl ?_ | refine nr rfl rfl rfl ?_ | refine pE rfl ?_ | refine WO.nil ?_ | refine pu (ay rfl rfl rfl (xk ..) rfl) rfl ?_ | (apply bj;(case hj=>rfl);(case hl=>rfl))
 refine qs (W.ret (QF.aB trivial rfl ?_));simp only[norm,aT];rw[tV];simp only[gS,lower,marks];simp[ah];grind
theorem pb (s:ByteArray):az Tryz.prog 75 [.d (.v (.string s))] (.d (.v (.int .i64 (cd s)))) 0:=by
 refine az.bl (n:=22) (ts:=[2]) Tryz.func75 (by kernel_rfl) rfl Tryz.ntmps75 Tryz.results75 rfl rfl fun C hC U=>?_;refine W.seq (W.region (pE rfl (WO.nil (qs ?_))));iterate 2 refine W.seq ?_
 apply aO;(case hb=>rfl);·repeat' first | refine bt rfl rfl rfl | refine aG rfl rfl ?_ | refine aD rfl rfl rfl rfl ?_ | refine pE rfl ?_ | refine WO.nil ?_ | (apply bj;(case hj=>rfl);(case hl=>rfl))
 refine qs (an rfl (fun J=>?_) (fun J=>?_));·
  refine W.seq (W.region (pE rfl (WO.nil (qs (W.ret (aA (QF.aB trivial rfl ?_)))))));simp only[norm,aT];grind[cd,lR]
 refine W.skip (qs ?_);iterate 2 refine W.seq ?_
 refine W.region ?_;iterate 3 refine pE rfl ?_
 refine WO.nil (qs (W.block (W.l9 (t:=0) rfl (fun hok=>?_))));have hlen:=kQ hok
 refine W.bF (ι:={x:Nat // match x with | k=>k≤(ah s).length∧((ah s).drop k).all gS=(ah s).all gS})
  (fun x=>match x.1 with | k=>[(13,.d (.v (.int .i64 ((k:Nat):Int))))]) [(0,_),(12,_)]
  (fun x=>match x.1 with | k=>[]) [] [] 0 (fun x=>match x.1 with | k=>(ah s).length - k)
  [] ⟨0,?_⟩ rfl ?_ ⟨rfl,rfl,rfl,rfl,trivial⟩ ?_ trivial rfl ?_
 ·exact⟨Nat.zero_le _,rfl⟩
 ·repeat' first | exact trivial | refine⟨rfl,?_⟩
 ·repeat' exact trivial
 rintro⟨k,O,I⟩;show W _ _ _ _ _ ⟨[(13,.d (.v (.int .i64 ((k:Nat):Int)))),(0,_),(12,_)],[],[],0⟩;refine W.seq (W.region (pE rfl (WO.nil (qs (W.seq (ca (l:=ah s) (k:=k) rfl (by simp[Ex.aF,aw]) O (fun b X hd M=>?_) (fun he hd=>?_)))))));·
  rw[hd,List.all_cons] at I;refine W.skip (qs (W.seq (W.block (W.seq (W.region ?_)))));iterate 2 refine pE rfl ?_
  refine WO.nil (qs (W.seq (W.region ?_)));iterate 2 refine pE rfl ?_
  refine pu (dM aa rfl rfl rfl rfl (Int.natCast_nonneg _) (gf (by assumption))) rfl ?_;refine pu (ay rfl rfl rfl (As ..) rfl) rfl ?_;refine pE rfl (WO.nil (qs (an rfl (fun N=>?_) (fun N=>?_))));·
   refine W.seq (W.region (pE rfl (WO.nil (qs (W.ret (aJ (aA (dV (aJ (aA (QF.aB trivial rfl ?_)))))))))));simp only[norm,aT];grind[cd,lR]
  refine W.skip (bz (qs (W.region ?_)));iterate 2 refine pE rfl ?_
  refine WO.nil (W.bU [] ⟨k+1,?_⟩ ?_ rfl ?_ ⟨rfl,rfl,rfl,rfl,trivial⟩ ?_ trivial rfl);·exact⟨M,by rw[←I];simp_all⟩
  ·dsimp only;omega
  ·repeat' first | exact trivial | refine⟨aP (by assumption) (by assumption),?_⟩
  repeat' exact trivial
 rw[hd] at I;refine W.exit (bb (be (ba (qs (W.seq (W.region (pE rfl (WO.nil (qs (W.ret (QF.aB trivial rfl ?_)))))))))));simp only[norm,aT];grind[cd,lR]
end Go.Proofs.YtpiaiiopakafhaaGreatDoor
namespace Go.Proofs
open Go.Shelf
def Tryz.pY:Go.Shelf.Ren:=⟨fun | 169=>90 | n=>n,fun | 70=>147 | 9=>9 | 0=>0 | 72=>150 | 37=>148 | 127=>201 | 3=>3 | 5=>5 | n=>n,fun | n=>n⟩
theorem Tryz.Cr:Go.Proofs.Lays.n169 Tryz.prog Tryz.pY:={
 mixed:=by kernel_rfl
 f169:=Tryz.func90.trans (congrArg some (by kernel_rfl))
 t0:=Tryz.underlying0
 a0:=Tryz.isAgg0
 z0:=Tryz.sizeOf0
 v0:=Tryz.zeroValue0
 t3:=Tryz.underlying3
 a3:=Tryz.isAgg3
 z3:=Tryz.sizeOf3
 v3:=Tryz.zeroValue3
 t9:=Tryz.underlying9
 a9:=Tryz.isAgg9
 z9:=Tryz.sizeOf9
 v9:=Tryz.zeroValue9
 t37:=Tryz.underlying148
 a37:=Tryz.isAgg148
 z37:=Tryz.sizeOf148
 v37:=Tryz.zeroValue148
 t70:=Tryz.underlying147
 a70:=Tryz.isAgg147
 z70:=Tryz.sizeOf147
 v70:=Tryz.zeroValue147
 t72:=Tryz.underlying150
 a72:=Tryz.isAgg150
 z72:=Tryz.sizeOf150
 v72:=Tryz.zeroValue150
 t127:=Tryz.underlying201
 a127:=Tryz.isAgg201
 z127:=Tryz.sizeOf201
 v127:=Tryz.zeroValue201 }
theorem Tryz.px:Builder.Extra Tryz.prog Tryz.pY:={
 sizeBuilder:=by kernel_rfl
 liesBuilder:=by kernel_rfl
 t5:=Tryz.underlying5
 a5:=Tryz.isAgg5
 z5:=Tryz.sizeOf5
 v5:=Tryz.zeroValue5
 infoByte:=by kernel_rfl
 cellsByte:=by kernel_rfl
 sizeByte:=by kernel_rfl
 neB5:=by decide }
open Go.RowKit in
theorem Tryz.Builder_String_any (B b:Nat) (l:List UInt8) (w:World) (h:Lib.IsBuilder 150 5 B b (Lib.byteCells l) w) (I:B≤w.heap.size) :
 Calls Tryz.prog 90 #[.pointer (some ⟨b,0,none⟩)] w fun e w'=>e=.returned (.string ⟨l.toArray⟩)∧Below B w w':=Any.Builder_String_any Tryz.Cr Tryz.px B b l w h I
def Tryz.uo:Go.Shelf.Ren:=⟨fun | 171=>76 | 243=>123 | 246=>163 | 283=>180 | 284=>181 | 285=>182 | 286=>183 | 129=>192 | 317=>191 | 318=>193 | 319=>194 | 320=>195 | 337=>202 | 338=>203 | n=>n,fun | 3=>3 | 9=>9 | 2=>2 | 4=>4 | 171=>219 | 0=>0 | 53=>220 | 37=>148 | 5=>5 | 173=>223 | 212=>230 | 51=>231 | 20=>20 | 213=>232 | 46=>233 | 232=>248 | 233=>249 | n=>n,fun | 17=>1 | 18=>4 | 19=>5 | n=>n⟩
theorem Tryz.Bp:Go.Proofs.LaysM.n171 Tryz.prog Tryz.uo:={
 mixed:=by kernel_rfl
 f129:=Tryz.func192.trans (congrArg some (by kernel_rfl))
 f171:=Tryz.func76.trans (congrArg some (by kernel_rfl))
 f243:=Tryz.func123.trans (congrArg some (by kernel_rfl))
 f246:=Tryz.func163.trans (congrArg some (by kernel_rfl))
 f283:=Tryz.func180.trans (congrArg some (by kernel_rfl))
 f284:=Tryz.func181.trans (congrArg some (by kernel_rfl))
 f285:=Tryz.func182.trans (congrArg some (by kernel_rfl))
 f286:=Tryz.func183.trans (congrArg some (by kernel_rfl))
 f317:=Tryz.func191.trans (congrArg some (by kernel_rfl))
 f318:=Tryz.func193.trans (congrArg some (by kernel_rfl))
 f319:=Tryz.func194.trans (congrArg some (by kernel_rfl))
 f320:=Tryz.func195.trans (congrArg some (by kernel_rfl))
 f337:=Tryz.func202.trans (congrArg some (by kernel_rfl))
 f338:=Tryz.func203.trans (congrArg some (by kernel_rfl))
 t0:=Tryz.underlying0
 a0:=Tryz.isAgg0
 z0:=Tryz.sizeOf0
 v0:=Tryz.zeroValue0
 t2:=Tryz.underlying2
 a2:=Tryz.isAgg2
 z2:=Tryz.sizeOf2
 v2:=Tryz.zeroValue2
 t3:=Tryz.underlying3
 a3:=Tryz.isAgg3
 z3:=Tryz.sizeOf3
 v3:=Tryz.zeroValue3
 t4:=Tryz.underlying4
 a4:=Tryz.isAgg4
 z4:=Tryz.sizeOf4
 v4:=Tryz.zeroValue4
 t5:=Tryz.underlying5
 a5:=Tryz.isAgg5
 z5:=Tryz.sizeOf5
 v5:=Tryz.zeroValue5
 t9:=Tryz.underlying9
 a9:=Tryz.isAgg9
 z9:=Tryz.sizeOf9
 v9:=Tryz.zeroValue9
 t20:=Tryz.underlying20
 a20:=Tryz.isAgg20
 z20:=Tryz.sizeOf20
 v20:=Tryz.zeroValue20
 t37:=Tryz.underlying148
 a37:=Tryz.isAgg148
 z37:=Tryz.sizeOf148
 v37:=Tryz.zeroValue148
 t46:=Tryz.underlying233
 a46:=Tryz.isAgg233
 z46:=Tryz.sizeOf233
 v46:=Tryz.zeroValue233
 t51:=Tryz.underlying231
 a51:=Tryz.isAgg231
 z51:=Tryz.sizeOf231
 v51:=Tryz.zeroValue231
 t53:=Tryz.underlying220
 a53:=Tryz.isAgg220
 z53:=Tryz.sizeOf220
 v53:=Tryz.zeroValue220
 t171:=Tryz.underlying219
 a171:=Tryz.isAgg219
 z171:=Tryz.sizeOf219
 v171:=Tryz.zeroValue219
 t173:=Tryz.underlying223
 a173:=Tryz.isAgg223
 z173:=Tryz.sizeOf223
 v173:=Tryz.zeroValue223
 t212:=Tryz.underlying230
 a212:=Tryz.isAgg230
 z212:=Tryz.sizeOf230
 v212:=Tryz.zeroValue230
 t213:=Tryz.underlying232
 a213:=Tryz.isAgg232
 z213:=Tryz.sizeOf232
 t232:=Tryz.underlying248
 a232:=Tryz.isAgg248
 z232:=Tryz.sizeOf248
 v232:=Tryz.zeroValue248
 t233:=Tryz.underlying249
 a233:=Tryz.isAgg249
 z233:=Tryz.sizeOf249
 v233:=Tryz.zeroValue249
 g17:=by kernel_rfl
 g18:=by kernel_rfl
 g19:=by kernel_rfl
 i0:=by kernel_rfl
 i2:=by kernel_rfl
 i3:=by kernel_rfl
 i4:=by kernel_rfl
 i5:=by kernel_rfl
 i9:=by kernel_rfl
 i20:=by kernel_rfl
 i37:=by kernel_rfl
 i46:=by kernel_rfl
 i51:=by kernel_rfl
 i53:=by kernel_rfl
 i171:=by kernel_rfl
 i173:=by kernel_rfl
 i212:=by kernel_rfl
 i232:=by kernel_rfl
 i233:=by kernel_rfl
 m17:=by kernel_rfl
 m18:=by kernel_rfl
 m19:=by kernel_rfl }
open Go.RowKit Go.Sort Go.Lib in
theorem Tryz.strconv_Itoa (n:Int) (h0:-9223372036854775808≤n) (h1:n≤9223372036854775807) (w:World) (I:Lib.TabIs Tryz.prog w "internal/strconv.uint64pow10" .u64 Lib.pow10Tab) :
 Calls Tryz.prog 76 #[.int .i64 n] w fun e w'=>e=.returned (.string ⟨(Lib.itoa n).toArray⟩)∧∃ k os,w'=grow (w.drewN k) os:=Any.strconv_Itoa Tryz.Bp n h0 h1 w I
def Tryz.vt:Go.Shelf.Ren:=⟨fun | 172=>177 | 244=>189 | 245=>190 | 247=>197 | 279=>198 | 280=>199 | 281=>200 | 282=>201 | 287=>204 | 316=>205 | 171=>76 | 205=>206 | 321=>207 | 322=>208 | 243=>123 | 246=>163 | 283=>180 | 284=>181 | 285=>182 | 286=>183 | 129=>192 | 317=>191 | 318=>193 | 319=>194 | 320=>195 | 337=>202 | 338=>203 | n=>n,fun | 9=>9 | 3=>3 | 75=>196 | 76=>197 | 4=>4 | 5=>5 | 167=>236 | 37=>148 | 0=>0 | 85=>237 | 2=>2 | 168=>239 | 53=>220 | 175=>243 | 46=>233 | 210=>246 | 127=>201 | 145=>253 | 143=>251 | 21=>21 | 171=>219 | 173=>223 | 212=>230 | 51=>231 | 20=>20 | 213=>232 | 232=>248 | 233=>249 | 80=>152 | n=>n,fun | 15=>2 | 16=>3 | 17=>1 | 18=>4 | 19=>5 | n=>n⟩
theorem Tryz.qz:Go.Proofs.LaysC.n172 Tryz.prog Tryz.vt:={
 mixed:=by kernel_rfl
 f129:=Tryz.func192.trans (congrArg some (by kernel_rfl))
 f171:=Tryz.func76.trans (congrArg some (by kernel_rfl))
 f172:=Tryz.func177.trans (congrArg some (by kernel_rfl))
 f205:=Tryz.func206.trans (congrArg some (by kernel_rfl))
 f243:=Tryz.func123.trans (congrArg some (by kernel_rfl))
 f244:=Tryz.func189.trans (congrArg some (by kernel_rfl))
 f245:=Tryz.func190.trans (congrArg some (by kernel_rfl))
 f246:=Tryz.func163.trans (congrArg some (by kernel_rfl))
 f247:=Tryz.func197.trans (congrArg some (by kernel_rfl))
 f279:=Tryz.func198.trans (congrArg some (by kernel_rfl))
 f280:=Tryz.func199.trans (congrArg some (by kernel_rfl))
 f281:=Tryz.func200.trans (congrArg some (by kernel_rfl))
 f282:=Tryz.func201.trans (congrArg some (by kernel_rfl))
 f283:=Tryz.func180.trans (congrArg some (by kernel_rfl))
 f284:=Tryz.func181.trans (congrArg some (by kernel_rfl))
 f285:=Tryz.func182.trans (congrArg some (by kernel_rfl))
 f286:=Tryz.func183.trans (congrArg some (by kernel_rfl))
 f287:=Tryz.func204.trans (congrArg some (by kernel_rfl))
 f316:=Tryz.func205.trans (congrArg some (by kernel_rfl))
 f317:=Tryz.func191.trans (congrArg some (by kernel_rfl))
 f318:=Tryz.func193.trans (congrArg some (by kernel_rfl))
 f319:=Tryz.func194.trans (congrArg some (by kernel_rfl))
 f320:=Tryz.func195.trans (congrArg some (by kernel_rfl))
 f321:=Tryz.func207.trans (congrArg some (by kernel_rfl))
 f322:=Tryz.func208.trans (congrArg some (by kernel_rfl))
 f337:=Tryz.func202.trans (congrArg some (by kernel_rfl))
 f338:=Tryz.func203.trans (congrArg some (by kernel_rfl))
 t0:=Tryz.underlying0
 a0:=Tryz.isAgg0
 z0:=Tryz.sizeOf0
 v0:=Tryz.zeroValue0
 t2:=Tryz.underlying2
 a2:=Tryz.isAgg2
 z2:=Tryz.sizeOf2
 v2:=Tryz.zeroValue2
 t3:=Tryz.underlying3
 a3:=Tryz.isAgg3
 z3:=Tryz.sizeOf3
 v3:=Tryz.zeroValue3
 t4:=Tryz.underlying4
 a4:=Tryz.isAgg4
 z4:=Tryz.sizeOf4
 v4:=Tryz.zeroValue4
 t5:=Tryz.underlying5
 a5:=Tryz.isAgg5
 z5:=Tryz.sizeOf5
 v5:=Tryz.zeroValue5
 t9:=Tryz.underlying9
 a9:=Tryz.isAgg9
 z9:=Tryz.sizeOf9
 v9:=Tryz.zeroValue9
 t20:=Tryz.underlying20
 a20:=Tryz.isAgg20
 z20:=Tryz.sizeOf20
 v20:=Tryz.zeroValue20
 t21:=Tryz.underlying21
 a21:=Tryz.isAgg21
 z21:=Tryz.sizeOf21
 v21:=Tryz.zeroValue21
 t37:=Tryz.underlying148
 a37:=Tryz.isAgg148
 z37:=Tryz.sizeOf148
 v37:=Tryz.zeroValue148
 t46:=Tryz.underlying233
 a46:=Tryz.isAgg233
 z46:=Tryz.sizeOf233
 v46:=Tryz.zeroValue233
 t51:=Tryz.underlying231
 a51:=Tryz.isAgg231
 z51:=Tryz.sizeOf231
 v51:=Tryz.zeroValue231
 t53:=Tryz.underlying220
 a53:=Tryz.isAgg220
 z53:=Tryz.sizeOf220
 v53:=Tryz.zeroValue220
 t75:=Tryz.underlying196
 a75:=Tryz.isAgg196
 z75:=Tryz.sizeOf196
 v75:=Tryz.zeroValue196
 t76:=Tryz.underlying197
 a76:=Tryz.isAgg197
 z76:=Tryz.sizeOf197
 v76:=Tryz.zeroValue197
 t85:=Tryz.underlying237
 a85:=Tryz.isAgg237
 z85:=Tryz.sizeOf237
 v85:=Tryz.zeroValue237
 t127:=Tryz.underlying201
 a127:=Tryz.isAgg201
 z127:=Tryz.sizeOf201
 v127:=Tryz.zeroValue201
 t143:=Tryz.underlying251
 a143:=Tryz.isAgg251
 z143:=Tryz.sizeOf251
 v143:=Tryz.zeroValue251
 t145:=Tryz.underlying253
 a145:=Tryz.isAgg253
 z145:=Tryz.sizeOf253
 v145:=Tryz.zeroValue253
 t167:=Tryz.underlying236
 a167:=Tryz.isAgg236
 z167:=Tryz.sizeOf236
 v167:=Tryz.zeroValue236
 t168:=Tryz.underlying239
 a168:=Tryz.isAgg239
 z168:=Tryz.sizeOf239
 v168:=Tryz.zeroValue239
 t171:=Tryz.underlying219
 a171:=Tryz.isAgg219
 z171:=Tryz.sizeOf219
 v171:=Tryz.zeroValue219
 t173:=Tryz.underlying223
 a173:=Tryz.isAgg223
 z173:=Tryz.sizeOf223
 v173:=Tryz.zeroValue223
 t175:=Tryz.underlying243
 a175:=Tryz.isAgg243
 z175:=Tryz.sizeOf243
 v175:=Tryz.zeroValue243
 t210:=Tryz.underlying246
 a210:=Tryz.isAgg246
 z210:=Tryz.sizeOf246
 v210:=Tryz.zeroValue246
 t212:=Tryz.underlying230
 a212:=Tryz.isAgg230
 z212:=Tryz.sizeOf230
 v212:=Tryz.zeroValue230
 t213:=Tryz.underlying232
 a213:=Tryz.isAgg232
 z213:=Tryz.sizeOf232
 t232:=Tryz.underlying248
 a232:=Tryz.isAgg248
 z232:=Tryz.sizeOf248
 v232:=Tryz.zeroValue248
 t233:=Tryz.underlying249
 a233:=Tryz.isAgg249
 z233:=Tryz.sizeOf249
 v233:=Tryz.zeroValue249
 g15:=by kernel_rfl
 g16:=by kernel_rfl
 g17:=by kernel_rfl
 g18:=by kernel_rfl
 g19:=by kernel_rfl
 t80:=Tryz.underlying152
 a80:=Tryz.isAgg152
 z80:=Tryz.sizeOf152
 v80:=Tryz.zeroValue152
 i0:=by kernel_rfl
 i2:=by kernel_rfl
 i3:=by kernel_rfl
 i4:=by kernel_rfl
 i5:=by kernel_rfl
 i9:=by kernel_rfl
 i20:=by kernel_rfl
 i21:=by kernel_rfl
 i37:=by kernel_rfl
 i46:=by kernel_rfl
 i51:=by kernel_rfl
 i53:=by kernel_rfl
 i75:=by kernel_rfl
 i76:=by kernel_rfl
 i80:=by kernel_rfl
 i85:=by kernel_rfl
 i127:=by kernel_rfl
 i143:=by kernel_rfl
 i145:=by kernel_rfl
 i167:=by kernel_rfl
 i168:=by kernel_rfl
 i171:=by kernel_rfl
 i173:=by kernel_rfl
 i175:=by kernel_rfl
 i210:=by kernel_rfl
 i212:=by kernel_rfl
 i232:=by kernel_rfl
 i233:=by kernel_rfl
 m15:=by kernel_rfl
 m16:=by kernel_rfl
 m17:=by kernel_rfl
 m18:=by kernel_rfl
 m19:=by kernel_rfl
 c0:=by kernel_rfl
 c2:=by kernel_rfl
 c3:=by kernel_rfl
 c4:=by kernel_rfl
 c5:=by kernel_rfl
 c9:=by kernel_rfl
 c20:=by kernel_rfl
 c21:=by kernel_rfl
 c37:=by kernel_rfl
 c46:=by kernel_rfl
 c51:=by kernel_rfl
 c53:=by kernel_rfl
 c75:=by kernel_rfl
 c76:=by kernel_rfl
 c80:=by kernel_rfl
 c85:=by kernel_rfl
 c127:=by kernel_rfl
 c143:=by kernel_rfl
 c145:=by kernel_rfl
 c167:=by kernel_rfl
 c168:=by kernel_rfl
 c171:=by kernel_rfl
 c173:=by kernel_rfl
 c175:=by kernel_rfl
 c210:=by kernel_rfl
 c212:=by kernel_rfl
 c213:=by kernel_rfl
 c232:=by kernel_rfl
 c233:=by kernel_rfl }
open Go.RowKit in
theorem Tryz.strconv_Atoi_ok (s:ByteArray) (I:s.size≤9223372036854775806) (v:Int) (h:Lib.atoiAll s.data.toList=.ok v) (w:World) :
 Calls Tryz.prog 177 #[.string s] w fun e w'=>e=.returned (.tuple #[.int .i64 v,.nilIface])∧(w'=w∨∃ t,w'=Lib.bytesWorld w 5 t):=Any.strconv_Atoi_ok Tryz.qz s I v h w
open Go.RowKit in
theorem Tryz.strconv_Atoi_syntax_var (s:ByteArray) (I:s.size≤281474976710656) (h:Lib.atoiAll s.data.toList=Lib.atoiAll []) (J:TypeId) (p:Value) (w:World) (M:w.var? Tryz.prog "strconv.ErrSyntax" = some #[.iface J p]) :
 Calls Tryz.prog 177 #[.string s] w fun e w'=>∃ N,e=.returned (.tuple #[.int .i64 0,.iface 239 (.pointer (some ⟨N,0,none⟩))])∧w.heap.size≤N∧w'.heap[N]? = some (.cells #[.string ⟨#[65,116,111,105]⟩,.string s,.iface J p] 246 (0,0))∧Below w.heap.size w w':=Any.strconv_Atoi_syntax_var Tryz.qz s I h J p w M
open Go.RowKit in
theorem Tryz.strconv_Atoi_range_var (s:ByteArray) (I:s.size≤281474976710656) (h:Lib.atoiAll s.data.toList=.range) (J:TypeId) (p:Value) (w:World) (M:w.var? Tryz.prog "strconv.ErrRange" = some #[.iface J p]) :
 Calls Tryz.prog 177 #[.string s] w fun e w'=>∃ N,e=.returned (.tuple #[.int .i64 (Lib.atoiSat s.data.toList),.iface 239 (.pointer (some ⟨N,0,none⟩))])∧w.heap.size≤N∧w'.heap[N]? = some (.cells #[.string ⟨#[65,116,111,105]⟩,.string s,.iface J p] 246 (0,0))∧Below w.heap.size w w':=Any.strconv_Atoi_range_var Tryz.qz s I h J p w M
end Go.Proofs
namespace Go.Proofs.YtpiaiiopakafhaaGreatDoor
open Go.Ab Go.Tb
set_option maxRecDepth 10000
set_option maxHeartbeats 1000000
attribute [local irreducible] W WO Pu QS QB QL QF QV bu CH QE
theorem iH {a b:ByteArray} (h:a.data.toList=b.data.toList):a=b:=by cases a;cases b;simp at h;exact congrArg _ h
theorem tT {n:Int} (h:n.natAbs < 10 ^ 20):(cT n).size≤21:=by
 have e:(cT n).size=(Lib.itoa n).length:=Array.length_toList.symm;rw[e];rcases Int.lt_or_le n 0 with I | I
 ·rw[iy I,List.length_cons];have:=nu n.natAbs 19 h;omega
 rw[iD I];have:=nu n.toNat 19 (by omega);omega
theorem iG (n:Int) (ok:Bool):az Tryz.prog 178 [.d (.v (.int .i64 n)),.d (.v (.bool ok))] (.tup [.d (.v (.int .i64 (if ok && cY n then n else 0))),.d (.v (.bool (ok && cY n)))]) 0:=by
 refine az.bl (n:=14) (ts:=[4,5]) Tryz.func178 (by kernel_rfl) rfl Tryz.ntmps178 Tryz.results178 rfl rfl fun C hC J=>?_;refine W.seq (W.region ?_);iterate 2 refine pE rfl ?_
 refine WO.nil (qs ?_);iterate 2 refine W.seq ?_
 apply aO;(case hb=>rfl);·repeat' first | refine bt rfl rfl rfl | refine aG rfl rfl ?_ | refine aD rfl rfl rfl rfl ?_ | refine pE rfl ?_ | refine WO.nil ?_ | refine pu (ay rfl rfl rfl (B8 ..) rfl) rfl ?_ | (apply bj;(case hj=>rfl);(case hl=>rfl))
 refine qs (an rfl (fun I=>?_) (fun I=>?_));·
  refine W.seq (W.region ?_);iterate 2 refine pE rfl ?_
  refine WO.nil (qs (W.ret (aA (QF.aB trivial rfl ?_))));cases ok <;> cases h:cY n <;> simp_all[norm,iZ,aT]
 refine W.skip (qs (W.seq (W.region ?_)));iterate 3 refine pE rfl ?_
 refine WO.nil (qs (W.ret (QF.aB trivial rfl ?_)));cases ok <;> cases h:cY n <;> simp_all[norm,iZ,aT]
end Go.Proofs.YtpiaiiopakafhaaGreatDoor
namespace Go.Proofs.YtpiaiiopakafhaaGreatDoor
open Go.Ab Go.Tb
set_option maxRecDepth 10000
set_option maxHeartbeats 1000000
attribute [local irreducible] W WO Pu QS QB QL QF QV bu CH QE
theorem zl {w:World} (hu:jA Tryz.prog w):l8 Tryz.prog w:=hu.num (fun _ h=>h)
theorem Cx {n:Int} (h:n.natAbs < 10 ^ 20):cm (.string (cT n))=true:=by have:=tT h;exact decide_eq_true (by simp only[maxLen];omega)
theorem Co {n:Int} (h0:-9223372036854775808≤n) (h1:n≤9223372036854775807):n.natAbs < 10 ^ 20:=by
 have hp:(10:Nat) ^ 20=100000000000000000000:=by decide
 omega
open Go.RowKit in
theorem CL (n:Int) (h0:-9223372036854775808≤n) (h1:n≤9223372036854775807):az Tryz.prog 76 [.d (.v (.int .i64 n))] (.d (.v (.string (cT n)))) 0:=
 az.tg (xs:=[.int .i64 n]) ⟨_,Tryz.func76,by kernel_rfl,by kernel_rfl⟩ fun w hu _=>(Tryz.strconv_Itoa n h0 h1 w (zl hu).1).mono fun e w' ⟨he,k,os,hw⟩=>⟨_,he,hw▸Lib.below_grow _ w (Nat.le_refl _) k os,fun _ _ _=>.d (.v _ (Cx (Co h0 h1)))⟩
theorem lZ (n:Int) (h0:-9223372036854775808≤n) (h1:n≤9223372036854775807):az Tryz.prog 25 [.d (.v (.int .i64 n))] (.d (.v (.string (cT n)))) 0:=by refine az.bl (n:=5) (ts:=[2]) Tryz.func25 (by kernel_rfl) rfl Tryz.ntmps25 Tryz.results25 rfl rfl fun C hC I=>?_;refine W.seq (W.region (pE rfl (WO.nil (qs (W.seq (W.region (pE rfl (pu (ay rfl rfl rfl ((CL _ (by assumption) (by assumption))) rfl) rfl ?_))))))));refine pE rfl (WO.nil (qs (W.ret (QF.aB trivial rfl ?_))));rfl
def xU (s:ByteArray):A:=
 match Lib.atoiAll s.data.toList with
 | .ok v=>.tup [.d (.v (.int .i64 v)),.d (.v .nilIface)]
 | .range=>.tup [.d (.v (.int .i64 (Lib.atoiSat s.data.toList))),.ni]
 | _=>.tup [.d (.v (.int .i64 0)),.ni]
theorem DS (l:List UInt8):cm (.int .i64 (Lib.atoiSat l))=true:=by unfold Lib.atoiSat;split <;> (try split) <;> decide
open Go.RowKit in
theorem CV (s:ByteArray) (hs:s.size≤281474976710656):az Tryz.prog 177 [.d (.v (.string s))] (xU s) 0:=
 az.tg (xs:=[.string s]) ⟨_,Tryz.func177,by kernel_rfl,by kernel_rfl⟩ fun w hu _=>by
  obtain⟨_,⟨t,p,h2⟩,t',I,h3⟩:=zl hu;unfold xU
  cases h:Lib.atoiAll s.data.toList with
  | ok v=>
   have hb:=Lib.atoiAll_bounds h;refine(Tryz.strconv_Atoi_ok s (by omega) v h w).mono fun e w' ⟨he,hw⟩=>⟨_,he,?_,fun _ _ _=>sf (.d (.v _ ?_)) (.d (.v _ rfl))⟩;·
    rcases hw with rfl | ⟨t,rfl⟩
    ·exact Below.refl _ _
    exact Joins.below_bytesWorld _ w _ _ (Nat.le_refl _)
   simp[cm,IntKind.min,IntKind.max,IntKind.signed,IntKind.bits];omega
  | range=>exact(Tryz.strconv_Atoi_range_var s hs h t' I w h3).mono fun e w' ⟨N,he,_,_,hb⟩=>⟨_,he,hb,fun _ _ _=>sf (.d (.v _ (DS _))) (.ni _ _)⟩
  | _=>exact(Tryz.strconv_Atoi_syntax_var s hs h t p w h2).mono fun e w' ⟨N,he,_,_,hb⟩=>⟨_,he,hb,fun _ _ _=>sf (.d (.v _ (by decide))) (.ni _ _)⟩
end Go.Proofs.YtpiaiiopakafhaaGreatDoor
namespace Go.Proofs.YtpiaiiopakafhaaGreatDoor
open Go.Ab Go.Tb
set_option maxRecDepth 10000
set_option maxHeartbeats 1000000
attribute [local irreducible] W WO Pu QS QB QL QF QV bu CH QE
end Go.Proofs.YtpiaiiopakafhaaGreatDoor
namespace Go.Proofs.YtpiaiiopakafhaaGreatDoor
open Go.Ab Go.Tb
set_option maxRecDepth 10000
set_option maxHeartbeats 1000000
attribute [local irreducible] W WO Pu QS QB QL QF QV bu CH QE
theorem De (s:ByteArray):cd s=0∨cd s=3:=by unfold cd;split <;> simp
theorem zT (l:List ByteArray):az Tryz.prog 150 [.d (.sl (y8 l))] (.d (.v (.int .i64 (fv l)))) 0:=by
 refine az.bl (n:=21) (ts:=[2]) Tryz.func150 (by kernel_rfl) rfl Tryz.ntmps150 Tryz.results150 rfl rfl fun C hC hG=>?_;refine W.seq (W.region (pE rfl (WO.nil (qs ?_))));iterate 2 refine W.seq ?_
 refine W.region ?_;iterate 3 refine pE rfl ?_
 refine WO.nil (qs (an rfl (fun O=>?_) (fun O=>?_)));·
  have J:fv l=7:=by unfold fv;rw[if_pos (by simp at O;omega)]
  refine W.seq (W.region (pE rfl (WO.nil (qs (W.ret (aA (QF.aB trivial rfl ?_)))))));rw[J];rfl
 have J:fv l=if l.any (fun s=>decide (cd s≠0)) then 3 else 0:=by unfold fv;rw[if_neg (by simp at O;omega)]
 refine W.skip (qs ?_);iterate 2 refine W.seq ?_
 refine W.region ?_;iterate 3 refine pE rfl ?_
 refine WO.nil (qs (W.block (W.len (t:=0) rfl rfl (fun hlen=>?_))));try simp only[List.length_map,Ex.aF] at hlen
 refine W.bF (ι:={x:Nat // match x with | k=>k≤l.length∧(l.drop k).any (fun s=>decide (cd s≠0))=l.any (fun s=>decide (cd s≠0))})
  (fun x=>match x.1 with | k=>[(11,.d (.v (.int .i64 ((k:Nat):Int))))]) [(9,_),(10,_)]
  (fun x=>match x.1 with | k=>[]) [] [] 0 (fun x=>match x.1 with | k=>l.length - k)
  [] ⟨0,?_⟩ rfl ?_ ⟨rfl,rfl,rfl,rfl,trivial⟩ ?_ trivial rfl ?_
 ·exact⟨Nat.zero_le _,rfl⟩
 ·repeat' first | exact trivial | refine⟨rfl,?_⟩
 ·repeat' exact trivial
 rintro⟨k,X,I⟩;show W _ _ _ _ _ ⟨[(11,.d (.v (.int .i64 ((k:Nat):Int)))),(9,_),(10,_)],[],[],0⟩;refine W.seq (W.region (pE rfl (WO.nil (qs (W.seq (ca (l:=l) (k:=k) rfl (by simp[Ex.aF,aw]) X (fun s Z hd U=>?_) (fun he hd=>?_)))))));·
  rw[hd,List.any_cons] at I;refine W.skip (qs (W.seq (W.block (W.seq (W.region (pu (indexAddr aa rfl rfl rfl rfl rfl rfl (Int.natCast_nonneg _) (aV Z) rfl) rfl ?_))))));refine pE rfl (pE rfl (WO.nil (qs (W.seq (W.region (pE rfl (pu (ay rfl rfl rfl (pb s) rfl) rfl ?_)))))));refine pE rfl (WO.nil (qs (W.seq (W.region ?_))));iterate 2 refine pE rfl ?_
  refine WO.nil (qs (an rfl (fun N=>?_) (fun N=>?_)));·
   have M:cd s=3:=by rcases De s with q | q <;> simp_all
   rw[M] at I;refine W.seq (W.region ?_);iterate 2 refine pE rfl ?_
   refine WO.nil (qs (W.ret (aJ (aA (dV (aJ (aA (QF.aB trivial rfl ?_))))))));rw[J,←I];simp[norm,aT,M]
  have M:cd s=0:=by simpa using N
  rw[M] at I;refine W.skip (bz (qs (W.region ?_)));iterate 2 refine pE rfl ?_
  refine WO.nil (W.bU [] ⟨k+1,?_⟩ ?_ rfl ?_ ⟨rfl,rfl,rfl,rfl,trivial⟩ ?_ trivial rfl);·exact⟨U,by simpa using I⟩
  ·dsimp only;omega
  ·repeat' first | exact trivial | refine⟨aP (by assumption) (by assumption),?_⟩
  repeat' exact trivial
 rw[hd,List.any_nil] at I;refine W.exit (bb (be (ba (qs (W.seq (W.region (pE rfl (WO.nil (qs (W.ret (QF.aB trivial rfl ?_)))))))))));rw[J,←I];rfl
theorem BI:az Tryz.prog 149 [] (.d (.sl (wc.map tx.c))) 0:=by refine az.bl (n:=15) (ts:=[0]) Tryz.func149 (by kernel_rfl) rfl Tryz.ntmps149 Tryz.results149 rfl rfl fun C hC I=>?_;refine W.seq (W.region (pE rfl (WO.nil (qs (W.seq (W.region (pu (build aa rfl rfl rfl rfl) rfl ?_)))))));refine pu (build aa rfl rfl rfl rfl) rfl ?_;refine pu (build aa rfl rfl rfl rfl) rfl ?_;refine pu (build aa rfl rfl rfl rfl) rfl ?_;refine pu (build aa rfl rfl rfl rfl) rfl ?_;refine pu (build aa rfl rfl rfl rfl) rfl ?_;refine pu (build aa rfl rfl rfl rfl) rfl ?_;refine pu (build aa rfl rfl rfl rfl) rfl ?_;refine pu (build aa rfl rfl rfl rfl) rfl ?_;refine pu (build aa rfl rfl rfl rfl) rfl ?_;refine pu (build aa rfl rfl rfl rfl) rfl ?_;refine pu (build aa rfl rfl rfl rfl) rfl ?_;refine pu (build aa rfl rfl rfl rfl) rfl ?_;refine pu (aZ aa rfl rfl rfl rfl rfl rfl rfl rfl rfl) rfl ?_;refine pE rfl (WO.nil (qs (W.ret (QF.aB trivial rfl ?_))));rfl
theorem D0 {k:Int} (h1:1≤k) (h2:k < 13):wc[k.toNat]? = some (bL k):=by rcases kinds h1 h2 with h | h | h | h | h | h | h | h | h | h | h | h <;> subst h <;> rfl
theorem yU (k:Int):az Tryz.prog 100 [.d (.v (.int .i64 k))] (.tup [.ag (bL k).c,.d (.v (.bool (mM k)))]) 0:=by
 refine az.cZ aa (n:=19) (rs:=[.cell 2 160,.tmp 3]) Tryz.func100 (by kernel_rfl) rfl Tryz.ntmps100 Tryz.results100 rfl fun C hC N=>?_;refine W.seq (W.region (aL aa rfl rfl rfl (pE rfl (WO.nil (qs (W.seq (W.region (pu (ay rfl rfl rfl (BI ..) rfl) rfl ?_))))))));refine pE rfl (WO.nil (qs ?_));iterate 2 refine W.seq ?_
 apply aO;(case hb=>rfl);·repeat' first | refine bt rfl rfl rfl | refine aG rfl rfl ?_ | refine aD rfl rfl rfl rfl ?_ | refine pE rfl ?_ | refine WO.nil ?_ | (apply bj;(case hj=>rfl);(case hl=>rfl))
 refine qs (an rfl (fun I=>?_) (fun I=>?_));·
  have J:bL k=yt∧mM k=false:=by
   have:k < 1∨13≤k:=by simp at I;revert I;show _→_;intro h;simpa [wc] using h
   exact⟨by unfold bL;rw[if_pos this],by simp[mM];omega⟩
  refine W.seq (W.region (pu (build aa rfl rfl rfl rfl) rfl ?_));refine ax aa rfl rfl rfl rfl rfl rfl rfl rfl (pE rfl (WO.nil (qs (W.ret (aA (QV.aB aa trivial rfl ?_))))));rw[J.1,J.2];rfl
 have M:1≤k∧k < 13:=by simp at I;simpa [wc] using I
 have J:mM k=true:=by simp[mM];omega
 refine W.skip (qs (W.seq (W.region ?_)));iterate 2 refine pE rfl ?_
 refine pu (indexAddr aa rfl rfl rfl rfl rfl rfl (by omega) (aV (D0 M.1 M.2)) rfl) rfl ?_;refine pE rfl (ax aa rfl rfl rfl rfl rfl rfl rfl rfl (pE rfl (WO.nil (qs (W.ret (QV.aB aa trivial rfl ?_))))));rw[J];rfl
theorem AB (f:tx) (e:Ev):az Tryz.prog 101 [.ag f.c,.ag e.c] (.d (.v (.int .i64 (kz f e)))) 0:=by
 refine az.bl (n:=13) (ts:=[4]) Tryz.func101 (by kernel_rfl) rfl Tryz.ntmps101 Tryz.results101 rfl rfl fun C hC J=>?_;refine W.seq (W.region (cw rfl rfl rfl (cw rfl rfl rfl (pE rfl (WO.nil (qs ?_))))));iterate 2 refine W.seq ?_
 refine W.region (pE rfl (pE rfl (WO.nil (qs (an rfl (fun I=>?_) (fun I=>?_))))));·
  refine W.seq (W.region (pE rfl (pE rfl (pu (ay rfl rfl rfl (pb ..) rfl) rfl ?_))));refine pE rfl (WO.nil (qs (W.ret (aA (QF.aB trivial rfl ?_)))));simp only[norm,aT];grind[kz]
 refine W.skip (qs (W.seq (W.region (pE rfl (pE rfl (pu (ay rfl rfl rfl (zT ..) rfl) rfl ?_))))));refine pE rfl (WO.nil (qs (W.ret (QF.aB trivial rfl ?_))));simp only[norm,aT];grind[kz]
end Go.Proofs.YtpiaiiopakafhaaGreatDoor
namespace Go.Proofs.YtpiaiiopakafhaaGreatDoor
open Go.Ab Go.Tb
set_option maxRecDepth 10000
set_option maxHeartbeats 1000000
attribute [local irreducible] W WO Pu QS QB QL QF QV bu CH QE
theorem A7 (a b:List ByteArray):az Tryz.prog 141 [.d (.sl (y8 a)),.d (.sl (y8 b))] (.d (.v (.bool (decide (a=b))))) 0:=by
 refine az.bl (n:=26) (ts:=[4]) Tryz.func141 (by kernel_rfl) rfl Tryz.ntmps141 Tryz.results141 rfl rfl fun C hC hG=>?_;refine W.seq (W.region (pE rfl (WO.nil (qs ?_))));iterate 2 refine W.seq ?_
 refine W.region ?_;iterate 5 refine pE rfl ?_
 refine WO.nil (qs (an rfl (fun I=>?_) (fun I=>?_)));·
  have O:decide (a=b)=false:=by simp at I ⊢;rintro rfl;simp at I
  refine W.seq (W.region (pE rfl (WO.nil (qs (W.ret (aA (QF.aB trivial rfl ?_)))))));rw[O];rfl
 have hl:a.length=b.length:=by simp at I;omega
 refine W.skip (qs ?_);iterate 2 refine W.seq ?_
 refine W.region ?_;iterate 3 refine pE rfl ?_
 refine WO.nil (qs (W.block (W.len (t:=0) rfl rfl (fun hlen=>?_))));try simp only[List.length_map,Ex.aF] at hlen
 refine W.bF (ι:={x:Nat // match x with | k=>k≤a.length∧decide (a.drop k=b.drop k)=decide (a=b)})
  (fun x=>match x.1 with | k=>[(13,.d (.v (.int .i64 ((k:Nat):Int))))]) [(0,_),(1,_),(12,_)]
  (fun x=>match x.1 with | k=>[]) [] [] 0 (fun x=>match x.1 with | k=>a.length - k)
  [] ⟨0,?_⟩ rfl ?_ ⟨rfl,rfl,rfl,rfl,rfl,rfl,trivial⟩ ?_ trivial rfl ?_
 ·exact⟨Nat.zero_le _,rfl⟩
 ·repeat' first | exact trivial | refine⟨rfl,?_⟩
 ·repeat' exact trivial
 rintro⟨k,Z,J⟩;show W _ _ _ _ _ ⟨[(13,.d (.v (.int .i64 ((k:Nat):Int)))),(0,_),(1,_),(12,_)],[],[],0⟩;refine W.seq (W.region (pE rfl (WO.nil (qs (W.seq (ca (l:=a) (k:=k) rfl (by simp[Ex.aF,aw]) Z (fun x hx hd U=>?_) (fun he hd=>?_)))))));·
  obtain⟨y,hy,X⟩:=Ay (l:=b) (k:=k) (by omega);rw[hd,X] at J;refine W.skip (qs (W.seq (W.block (W.seq (W.region ?_)))));iterate 2 refine pE rfl ?_
  refine WO.nil (qs (W.seq (W.eW aa (by kernel_rfl) ?_)));iterate 2 refine aK (ev aa rfl) rfl ?_
  refine aK (indexAddr aa rfl rfl rfl rfl rfl rfl (Int.natCast_nonneg _) (aV hx) rfl) rfl ?_;refine aK (ev aa rfl) rfl ?_;iterate 2 refine aK (ev aa rfl) rfl ?_
  refine aK (indexAddr aa rfl rfl rfl rfl rfl rfl (Int.natCast_nonneg _) (aV hy) rfl) rfl ?_;refine aK (ev aa rfl) rfl ?_;refine aK (ev aa rfl) rfl ?_;refine CH.nil ?_;refine qs (an rfl (fun M=>?_) (fun M=>?_));·
   have N:x≠y:=by rintro rfl;simp at M
   have O:decide (a=b)=false:=by rw[←J];simp[N]
   refine W.seq (W.region (pE rfl (WO.nil (qs (W.ret (aJ (aA (dV (aJ (aA (QF.aB trivial rfl ?_)))))))))));rw[O];rfl
  have N:x=y:=by simpa using M
  refine W.skip (bz (qs (W.region ?_)));iterate 2 refine pE rfl ?_
  refine WO.nil (W.bU [] ⟨k+1,?_⟩ ?_ rfl ?_ ⟨rfl,rfl,rfl,rfl,rfl,rfl,trivial⟩ ?_ trivial rfl);·
   refine⟨U,?_⟩;rw[←J,N];simp
  ·dsimp only;omega
  ·repeat' first | exact trivial | refine⟨aP (by assumption) (by assumption),?_⟩
  repeat' exact trivial
 rw[hd,dropEnd (l:=b) (by omega)] at J;refine W.exit (bb (be (ba (qs (W.seq (W.region (pE rfl (WO.nil (qs (W.ret (QF.aB trivial rfl ?_)))))))))));rw[←J];rfl
def z7 (a b:Ev):Bool:=decide (a.time=b.time) && decide (a.kind=b.kind) && decide (a.name=b.name) && decide (a.n=b.n) && decide (a.m=b.m) && decide (a.stack=b.stack)
theorem Dr (a b:Ev):az Tryz.prog 94 [.ag a.c,.ag b.c] (.d (.v (.bool (z7 a b)))) 0:=by
 refine az.bl (n:=45) (ts:=[4]) Tryz.func94 (by kernel_rfl) rfl Tryz.ntmps94 Tryz.results94 rfl rfl fun C hC I=>?_;refine W.seq (W.region (cw rfl rfl rfl (cw rfl rfl rfl (pE rfl (WO.nil (qs (W.seq ?_)))))));apply aO;(case hb=>rfl);·repeat' first | refine bt rfl rfl rfl | refine aG rfl rfl ?_ | refine aD rfl rfl rfl rfl ?_ | refine pE rfl ?_ | refine pu (ay rfl rfl rfl (A7 ..) rfl) rfl ?_ | refine WO.nil ?_ | (apply bj;(case hj=>rfl);(case hl=>rfl))
 refine qs (W.ret (QF.aB trivial rfl ?_));simp only[norm,aT,z7];grind
theorem tQ (e:Ev):az Tryz.prog 59 [.ag e.c] (.d (.v (.int .i64 (cn e)))) 0:=by
 refine az.bl (n:=127) (ts:=[2]) Tryz.func59 (by kernel_rfl) rfl Tryz.ntmps59 Tryz.results59 rfl rfl fun C hC X=>?_;refine W.seq (W.region (cw rfl rfl rfl (pE rfl (WO.nil (qs ?_)))));iterate 2 refine W.seq ?_
 apply aO;(case hb=>rfl);·repeat' first | refine bt rfl rfl rfl | refine aG rfl rfl ?_ | refine aD rfl rfl rfl rfl ?_ | refine pE rfl ?_ | refine WO.nil ?_ | (apply bj;(case hj=>rfl);(case hl=>rfl))
 refine qs (an rfl (fun J=>?_) (fun J=>?_));·
  refine W.seq (W.region (pE rfl (WO.nil (qs (W.ret (aA (QF.aB trivial rfl ?_)))))));simp only[norm,aT];grind[cn]
 refine W.skip (qs (W.seq (W.region (pE rfl (pE rfl (pu (ay rfl rfl rfl (yU ..) rfl) rfl ?_))))));iterate 3 refine pE rfl ?_
 refine aL aa rfl rfl rfl (ax aa rfl rfl rfl rfl rfl rfl rfl rfl (pE rfl (WO.nil (qs ?_))));iterate 2 refine W.seq ?_
 apply aO;(case hb=>rfl);·repeat' first | refine bt rfl rfl rfl | refine aG rfl rfl ?_ | refine aD rfl rfl rfl rfl ?_ | refine nr rfl rfl rfl ?_ | refine pE rfl ?_ | refine WO.nil ?_ | (apply bj;(case hj=>rfl);(case hl=>rfl))
 refine qs (an rfl (fun M=>?_) (fun M=>?_));·
  refine W.seq (W.region (pE rfl (WO.nil (qs (W.ret (aA (QF.aB trivial rfl ?_)))))));simp only[norm,aT];grind[cn]
 refine W.skip (qs ?_);iterate 2 refine W.seq ?_
 refine W.region (pE rfl (pE rfl (pu (ay rfl rfl rfl (AB ..) rfl) rfl ?_)));refine pE rfl (WO.nil (qs (W.seq (W.region ?_))));iterate 2 refine pE rfl ?_
 refine WO.nil (qs (an rfl (fun N=>?_) (fun N=>?_)));·
  refine W.seq (W.region ?_);iterate 2 refine pE rfl ?_
  refine WO.nil (qs (W.ret (aA (QF.aB trivial rfl ?_))));simp only[norm,aT];grind[cn]
 refine W.skip (qs (W.seq (W.block (W.seq ?_))));apply aO;(case hb=>rfl);·repeat' first | refine bt rfl rfl rfl | refine aG rfl rfl ?_ | refine aD rfl rfl rfl rfl ?_ | refine nr rfl rfl rfl ?_ | refine pE rfl ?_ | refine WO.nil ?_ | (apply bj;(case hj=>rfl);(case hl=>rfl))
 refine qs (an rfl (fun O=>?_) (fun O=>?_));·
  refine W.seq (W.region (pE rfl (WO.nil (qs (W.ret (aJ (aA (QF.aB trivial rfl ?_))))))));simp only[norm,aT];grind[cn]
 refine W.seq ?_;apply aO;(case hb=>rfl);·repeat' first | refine bt rfl rfl rfl | refine aG rfl rfl ?_ | refine aD rfl rfl rfl rfl ?_ | refine pE rfl ?_ | refine WO.nil ?_ | (apply bj;(case hj=>rfl);(case hl=>rfl))
 refine qs (an rfl (fun U=>?_) (fun U=>?_));·
  refine W.seq (W.region (pE rfl (WO.nil (qs (W.ret (aJ (aA (QF.aB trivial rfl ?_))))))));simp only[norm,aT];grind[cn]
 refine W.seq ?_;apply aO;(case hb=>rfl);·repeat' first | refine bt rfl rfl rfl | refine aG rfl rfl ?_ | refine aD rfl rfl rfl rfl ?_ | refine nr rfl rfl rfl ?_ | refine pE rfl ?_ | refine WO.nil ?_ | (apply bj;(case hj=>rfl);(case hl=>rfl))
 refine qs (an rfl (fun I=>?_) (fun I=>?_));·
  refine W.seq (W.region (pE rfl (WO.nil (qs (W.ret (aJ (aA (QF.aB trivial rfl ?_))))))));simp only[norm,aT];grind[cn]
 refine W.skip (bz (qs (W.seq (W.region (pE rfl (WO.nil (qs (W.ret (QF.aB trivial rfl ?_)))))))));simp only[norm,aT];grind[cn]
end Go.Proofs.YtpiaiiopakafhaaGreatDoor
namespace Go.Proofs.YtpiaiiopakafhaaGreatDoor
open Go.Ab Go.Tb
set_option maxRecDepth 10000
set_option maxHeartbeats 1000000
attribute [local irreducible] W WO Pu QS QB QL QF QV bu CH QE
theorem yZ (s:ByteArray) (v:Int) (h:Lib.atoiAll s.data.toList=.ok v):fE s=(if (if cT v=s then true else false) && cY v then (v,true) else (0,false)):=by unfold fE;rw[h];by_cases h1:cT v=s <;> by_cases h2:cY v=true <;> simp[h1,h2]
theorem Ac (l:List UInt8):-9223372036854775808≤Lib.atoiSat l∧Lib.atoiSat l≤9223372036854775807:=by unfold Lib.atoiSat;split <;> decide
theorem wrap_u8 {x:Int} (h:0≤x∧x≤255):IntKind.u8.wrap x=x:=IntWalk.u8_in x h
theorem fS (s:ByteArray) (hs:s.size≤281474976710656):az Tryz.prog 160 [.d (.v (.string s))] (.tup [.d (.v (.int .i64 (fE s).1)),.d (.v (.bool (fE s).2))]) 0:=by
 have I:=CV s hs;unfold xU at I
 cases h:Lib.atoiAll s.data.toList with
 | ok v=>
  rw[h] at I;have hb:=Lib.atoiAll_bounds h;have hp:=yZ s v h;refine az.bl (n:=23) (ts:=[2,3]) Tryz.func160 (by kernel_rfl) rfl Tryz.ntmps160 Tryz.results160 rfl rfl fun C hC J=>?_;refine W.seq (W.region ?_);iterate 2 refine pE rfl ?_
  refine WO.nil (qs (W.seq (W.region (pE rfl (pu (ay rfl rfl rfl I rfl) rfl ?_)))));iterate 5 refine pE rfl ?_
  refine WO.nil (qs (W.seq (W.region ?_)));iterate 2 refine pE rfl ?_
  refine pu (Fe rfl (by kernel_rfl)) rfl ?_;refine pE rfl (kC rfl rfl (fun _=>?_) (fun _=>?_));·
   refine aG rfl rfl (pE rfl (aG rfl rfl (pu (ay rfl rfl rfl (lZ v hb.1 hb.2) rfl) rfl ?_)));refine aG rfl rfl (pE rfl (aG rfl rfl ?_));iterate 2 refine pE rfl ?_
   refine pu (ay rfl rfl rfl (iG ..) rfl) rfl ?_;iterate 4 refine pE rfl ?_
   refine WO.nil (qs (W.ret (QF.aB trivial rfl ?_)))
   (rw[hp];simp only[norm,iZ,aT];by_cases h1:cT v=s <;> by_cases h2:cY v=true <;> simp[h1,h2])
  iterate 4 refine aD rfl rfl rfl rfl ?_
  refine pE rfl (pu (ay rfl rfl rfl (iG ..) rfl) rfl ?_);iterate 4 refine pE rfl ?_
  refine WO.nil (qs (W.ret (QF.aB trivial rfl ?_)));first | contradiction | (rw[hp];simp only[norm,iZ,aT];by_cases h1:cT v=s <;> by_cases h2:cY v=true <;> simp[h1,h2])
 | range=>
  rw[h] at I;have hp:fE s=(0,false):=by unfold fE;rw[h]
  refine az.bl (n:=23) (ts:=[2,3]) Tryz.func160 (by kernel_rfl) rfl Tryz.ntmps160 Tryz.results160 rfl rfl fun C hC J=>?_;refine W.seq (W.region ?_);iterate 2 refine pE rfl ?_
  refine WO.nil (qs (W.seq (W.region (pE rfl (pu (ay rfl rfl rfl I rfl) rfl ?_)))));iterate 5 refine pE rfl ?_
  refine WO.nil (qs (W.seq (W.region ?_)));iterate 2 refine pE rfl ?_
  refine pu (D9 rfl (by kernel_rfl)) rfl ?_;refine pE rfl (kC rfl rfl (fun _=>?_) (fun _=>?_));·
   refine aG rfl rfl (pE rfl (aG rfl rfl (pu (ay rfl rfl rfl (lZ _ (Ac _).1 (Ac _).2) rfl) rfl ?_)));refine aG rfl rfl (pE rfl (aG rfl rfl ?_));iterate 2 refine pE rfl ?_
   refine pu (ay rfl rfl rfl (iG ..) rfl) rfl ?_;iterate 4 refine pE rfl ?_
   refine WO.nil (qs (W.ret (QF.aB trivial rfl ?_)));contradiction
  iterate 4 refine aD rfl rfl rfl rfl ?_
  refine pE rfl (pu (ay rfl rfl rfl (iG ..) rfl) rfl ?_);iterate 4 refine pE rfl ?_
  refine WO.nil (qs (W.ret (QF.aB trivial rfl ?_)));first | contradiction | (rw[hp];rfl)
 | _=>
  rw[h] at I;have hp:fE s=(0,false):=by unfold fE;rw[h]
  refine az.bl (n:=23) (ts:=[2,3]) Tryz.func160 (by kernel_rfl) rfl Tryz.ntmps160 Tryz.results160 rfl rfl fun C hC J=>?_;refine W.seq (W.region ?_);iterate 2 refine pE rfl ?_
  refine WO.nil (qs (W.seq (W.region (pE rfl (pu (ay rfl rfl rfl I rfl) rfl ?_)))));iterate 5 refine pE rfl ?_
  refine WO.nil (qs (W.seq (W.region ?_)));iterate 2 refine pE rfl ?_
  refine pu (D9 rfl (by kernel_rfl)) rfl ?_;refine pE rfl (kC rfl rfl (fun _=>?_) (fun _=>?_));·
   refine aG rfl rfl (pE rfl (aG rfl rfl (pu (ay rfl rfl rfl (lZ 0 (by decide) (by decide)) rfl) rfl ?_)));refine aG rfl rfl (pE rfl (aG rfl rfl ?_));iterate 2 refine pE rfl ?_
   refine pu (ay rfl rfl rfl (iG ..) rfl) rfl ?_;iterate 4 refine pE rfl ?_
   refine WO.nil (qs (W.ret (QF.aB trivial rfl ?_)));contradiction
  iterate 4 refine aD rfl rfl rfl rfl ?_
  refine pE rfl (pu (ay rfl rfl rfl (iG ..) rfl) rfl ?_);iterate 4 refine pE rfl ?_
  refine WO.nil (qs (W.ret (QF.aB trivial rfl ?_)))
  (rw[hp];rfl)
end Go.Proofs.YtpiaiiopakafhaaGreatDoor
namespace Go.Proofs.YtpiaiiopakafhaaGreatDoor
open Go.Ab Go.Tb
set_option maxRecDepth 10000
set_option maxHeartbeats 1000000
attribute [local irreducible] W WO Pu QS QB QL QF QV bu CH QE
theorem zB (a b:List bJ):az Tryz.prog 44 [.d (.sl (a.map bJ.c)),.d (.sl (b.map bJ.c))] (.d (.v (.bool (decide (a=b))))) 0:=by
 refine az.bl (n:=26) (ts:=[4]) Tryz.func44 (by kernel_rfl) rfl Tryz.ntmps44 Tryz.results44 rfl rfl fun C hC hG=>?_;refine W.seq (W.region (pE rfl (WO.nil (qs ?_))));iterate 2 refine W.seq ?_
 refine W.region ?_;iterate 5 refine pE rfl ?_
 refine WO.nil (qs (an rfl (fun I=>?_) (fun I=>?_)));·
  have J:decide (a=b)=false:=decide_eq_false (by rintro rfl;simp at I);refine W.seq (W.region (pE rfl (WO.nil (qs (W.ret (aA (QF.aB trivial rfl ?_)))))));rw[J];rfl
 have ad:a.length=b.length:=by simp at I;omega
 refine W.skip (qs ?_);iterate 2 refine W.seq ?_
 refine W.region ?_;iterate 3 refine pE rfl ?_
 refine WO.nil (qs (W.block (W.len (t:=0) rfl rfl (fun hlen=>?_))));try simp only[List.length_map,Ex.aF] at hlen
 refine W.bF (ι:={x:Nat // match x with | k=>k≤a.length∧(a.drop k=b.drop k↔a=b)})
  (fun x=>match x.1 with | k=>[(13,.d (.v (.int .i64 ((k:Nat):Int))))]) [(0,_),(1,_),(12,_)]
  (fun x=>match x.1 with | k=>[]) [] [] 0 (fun x=>match x.1 with | k=>a.length - k)
  [] ⟨0,?_⟩ rfl ?_ ⟨rfl,rfl,rfl,rfl,rfl,rfl,trivial⟩ ?_ trivial rfl ?_
 ·exact⟨Nat.zero_le _,by simp⟩
 ·repeat' first | exact trivial | refine⟨rfl,?_⟩
 ·repeat' exact trivial
 rintro⟨k,hk,M⟩;show W _ _ _ _ _ ⟨[(13,.d (.v (.int .i64 ((k:Nat):Int)))),(0,_),(1,_),(12,_)],[],[],0⟩;refine W.seq (W.region (pE rfl (WO.nil (qs (W.seq (ca (l:=a) (k:=k) rfl (by simp[Ex.aF,aw]) hk (fun x hx hd Z=>?_) (fun he hd=>?_)))))));·
  obtain⟨y,hy⟩:∃ y,b[k]? = some y:=⟨b[k]'(by omega),by simp⟩;have N:b.drop k=y::b.drop (k+1):=by
   have X:k < b.length:=by omega
   have:=List.drop_eq_getElem_cons X;rw[this,(List.getElem?_eq_some_iff.1 hy).2]
  rw[hd,N] at M;refine W.skip (qs (W.seq (W.block (W.seq (W.region ?_)))));iterate 2 refine pE rfl ?_
  refine WO.nil (qs (W.seq (W.eW aa (by kernel_rfl) ?_)));iterate 2 refine aK (ev aa rfl) rfl ?_
  refine aK (indexAddr (l:=x.c) aa rfl rfl rfl rfl rfl rfl (Int.natCast_nonneg _) (aV hx) rfl) rfl ?_;refine aK (ev aa rfl) rfl ?_;iterate 2 refine aK (ev aa rfl) rfl ?_
  refine aK (indexAddr (l:=y.c) aa rfl rfl rfl rfl rfl rfl (Int.natCast_nonneg _) (aV hy) rfl) rfl ?_;refine aK (ev aa rfl) rfl ?_;refine aK (ev aa rfl) rfl ?_;refine CH.nil ?_;refine qs (an rfl (fun O=>?_) (fun O=>?_));·
   have U:x≠y:=by rintro rfl;simp at O
   have J:decide (a=b)=false:=decide_eq_false (fun q=>by have:=M.2 q;simp at this;exact U this.1);refine W.seq (W.region (pE rfl (WO.nil (qs (W.ret (aJ (aA (dV (aJ (aA (QF.aB trivial rfl ?_)))))))))));rw[J];rfl
  have U:x=y:=by
   have q:x.id=y.id∧x.name=y.name:=by simpa using O
   cases x;cases y;simp_all
  have hn:a.drop (k+1)=b.drop (k+1)↔a=b:=by rw[←M,U];simp
  refine W.skip (bz (qs (W.region ?_)));iterate 2 refine pE rfl ?_
  refine WO.nil (W.bU [] ⟨k+1,?_⟩ ?_ rfl ?_ ⟨rfl,rfl,rfl,rfl,rfl,rfl,trivial⟩ ?_ trivial rfl);·exact⟨Z,hn⟩
  ·dsimp only;omega
  ·repeat' first | exact trivial | refine⟨aP (by assumption) (by assumption),?_⟩
  repeat' exact trivial
 have N:b.drop k=[]:=List.drop_eq_nil_of_le (by have:=congrArg List.length hd;simp at this;omega);rw[hd,N] at M;have J:decide (a=b)=true:=decide_eq_true (M.1 rfl);refine W.exit (bb (be (ba (qs (W.seq (W.region (pE rfl (WO.nil (qs (W.ret (QF.aB trivial rfl ?_)))))))))));rw[J];rfl
theorem zN (a b:List (Int×Int)):az Tryz.prog 45 [.d (.sl (a.map eB)),.d (.sl (b.map eB))] (.d (.v (.bool (decide (a=b))))) 0:=by
 refine az.bl (n:=26) (ts:=[4]) Tryz.func45 (by kernel_rfl) rfl Tryz.ntmps45 Tryz.results45 rfl rfl fun C hC hG=>?_;refine W.seq (W.region (pE rfl (WO.nil (qs ?_))));iterate 2 refine W.seq ?_
 refine W.region ?_;iterate 5 refine pE rfl ?_
 refine WO.nil (qs (an rfl (fun I=>?_) (fun I=>?_)));·
  have J:decide (a=b)=false:=decide_eq_false (by rintro rfl;simp at I);refine W.seq (W.region (pE rfl (WO.nil (qs (W.ret (aA (QF.aB trivial rfl ?_)))))));rw[J];rfl
 have ad:a.length=b.length:=by simp at I;omega
 refine W.skip (qs ?_);iterate 2 refine W.seq ?_
 refine W.region ?_;iterate 3 refine pE rfl ?_
 refine WO.nil (qs (W.block (W.len (t:=0) rfl rfl (fun hlen=>?_))));try simp only[List.length_map,Ex.aF] at hlen
 refine W.bF (ι:={x:Nat // match x with | k=>k≤a.length∧(a.drop k=b.drop k↔a=b)})
  (fun x=>match x.1 with | k=>[(13,.d (.v (.int .i64 ((k:Nat):Int))))]) [(0,_),(1,_),(12,_)]
  (fun x=>match x.1 with | k=>[]) [] [] 0 (fun x=>match x.1 with | k=>a.length - k)
  [] ⟨0,?_⟩ rfl ?_ ⟨rfl,rfl,rfl,rfl,rfl,rfl,trivial⟩ ?_ trivial rfl ?_
 ·exact⟨Nat.zero_le _,by simp⟩
 ·repeat' first | exact trivial | refine⟨rfl,?_⟩
 ·repeat' exact trivial
 rintro⟨k,hk,M⟩;show W _ _ _ _ _ ⟨[(13,.d (.v (.int .i64 ((k:Nat):Int)))),(0,_),(1,_),(12,_)],[],[],0⟩;refine W.seq (W.region (pE rfl (WO.nil (qs (W.seq (ca (l:=a) (k:=k) rfl (by simp[Ex.aF,aw]) hk (fun x hx hd Z=>?_) (fun he hd=>?_)))))));·
  obtain⟨y,hy⟩:∃ y,b[k]? = some y:=⟨b[k]'(by omega),by simp⟩;have N:b.drop k=y::b.drop (k+1):=by
   have X:k < b.length:=by omega
   have:=List.drop_eq_getElem_cons X;rw[this,(List.getElem?_eq_some_iff.1 hy).2]
  rw[hd,N] at M;refine W.skip (qs (W.seq (W.block (W.seq (W.region ?_)))));iterate 2 refine pE rfl ?_
  refine WO.nil (qs (W.seq (W.eW aa (by kernel_rfl) ?_)));iterate 2 refine aK (ev aa rfl) rfl ?_
  refine aK (indexAddr (l:=eB x) aa rfl rfl rfl rfl rfl rfl (Int.natCast_nonneg _) (aV hx) rfl) rfl ?_;refine aK (ev aa rfl) rfl ?_;iterate 2 refine aK (ev aa rfl) rfl ?_
  refine aK (indexAddr (l:=eB y) aa rfl rfl rfl rfl rfl rfl (Int.natCast_nonneg _) (aV hy) rfl) rfl ?_;refine aK (ev aa rfl) rfl ?_;refine aK (ev aa rfl) rfl ?_;refine CH.nil ?_;refine qs (an rfl (fun O=>?_) (fun O=>?_));·
   have U:x≠y:=by rintro rfl;simp at O
   have J:decide (a=b)=false:=decide_eq_false (fun q=>by have:=M.2 q;simp at this;exact U this.1);refine W.seq (W.region (pE rfl (WO.nil (qs (W.ret (aJ (aA (dV (aJ (aA (QF.aB trivial rfl ?_)))))))))));rw[J];rfl
  have U:x=y:=by
   have q:x.1=y.1∧x.2=y.2:=by simpa [eB] using O
   exact Prod.ext q.1 q.2
  have hn:a.drop (k+1)=b.drop (k+1)↔a=b:=by rw[←M,U];simp
  refine W.skip (bz (qs (W.region ?_)));iterate 2 refine pE rfl ?_
  refine WO.nil (W.bU [] ⟨k+1,?_⟩ ?_ rfl ?_ ⟨rfl,rfl,rfl,rfl,rfl,rfl,trivial⟩ ?_ trivial rfl);·exact⟨Z,hn⟩
  ·dsimp only;omega
  ·repeat' first | exact trivial | refine⟨aP (by assumption) (by assumption),?_⟩
  repeat' exact trivial
 have N:b.drop k=[]:=List.drop_eq_nil_of_le (by have:=congrArg List.length hd;simp at this;omega);rw[hd,N] at M;have J:decide (a=b)=true:=decide_eq_true (M.1 rfl);refine W.exit (bb (be (ba (qs (W.seq (W.region (pE rfl (WO.nil (qs (W.ret (QF.aB trivial rfl ?_)))))))))));rw[J];rfl
theorem zI:az Tryz.prog 46 [.d (.sl []),.d (.sl [])] (.d (.v (.bool true))) 0:=by
 refine az.bl (n:=26) (ts:=[4]) Tryz.func46 (by kernel_rfl) rfl Tryz.ntmps46 Tryz.results46 rfl rfl fun C hC O=>?_;refine W.seq (W.region (pE rfl (WO.nil (qs ?_))));iterate 2 refine W.seq ?_
 refine W.region ?_;iterate 5 refine pE rfl ?_
 refine WO.nil (qs (an rfl (fun I=>?_) (fun I=>?_)));·exfalso;simp at I
 refine W.skip (qs ?_);iterate 2 refine W.seq ?_
 refine W.region ?_;iterate 3 refine pE rfl ?_
 refine WO.nil (qs (W.block ?_))
 refine W.bF (ι:={x:Nat // match x with | k=>k≤([]:List (List D)).length})
  (fun x=>match x.1 with | k=>[(13,.d (.v (.int .i64 ((k:Nat):Int))))]) [(0,_),(1,_),(12,_)]
  (fun x=>match x.1 with | k=>[]) [] [] 0 (fun x=>match x.1 with | k=>([]:List (List D)).length - k)
  [] ⟨0,?_⟩ rfl ?_ ⟨rfl,rfl,rfl,rfl,rfl,rfl,trivial⟩ ?_ trivial rfl ?_
 ·exact Nat.zero_le _
 ·repeat' first | exact trivial | refine⟨rfl,?_⟩
 ·repeat' exact trivial
 rintro⟨k,J⟩;show W _ _ _ _ _ ⟨[(13,.d (.v (.int .i64 ((k:Nat):Int)))),(0,_),(1,_),(12,_)],[],[],0⟩;refine W.seq (W.region (pE rfl (WO.nil (qs (W.seq (ca (l:=([]:List (List D))) (k:=k) rfl (by simp[Ex.aF,aw]) J (fun d M hd N=>?_) (fun he hd=>?_)))))));·exfalso;simp at M
 refine W.exit (bb (be (ba (qs (W.seq (W.region (pE rfl (WO.nil (qs (W.ret (QF.aB trivial rfl ?_)))))))))));rfl
theorem xV (fid:Nat) (p:Ev→Ev→Bool) (hp:∀ x y:Ev,az Tryz.prog fid [.ag (Ev.c x),.ag (Ev.c y)] (.d (.v (.bool (p x y)))) 0) (l m:List Ev) :
 az Tryz.prog 93 [.d (.sl (l.map Ev.c)),.d (.sl (m.map Ev.c)),.clo fid []] (.d (.v (.bool (eG p l m)))) 0:=by
 refine az.bl (n:=32) (ts:=[6]) Tryz.func93 (by kernel_rfl) rfl Tryz.ntmps93 Tryz.results93 rfl rfl fun C hC hG=>?_;refine W.seq (W.region (pE rfl (WO.nil (qs ?_))));iterate 2 refine W.seq ?_
 refine W.region ?_;iterate 5 refine pE rfl ?_
 refine WO.nil (qs (an rfl (fun J=>?_) (fun J=>?_)));·
  have M:eG p l m=false:=by
   cases he:eG p l m with
   | false=>rfl
   | true=>have:=qD he;simp at J;omega
  refine W.seq (W.region (pE rfl (WO.nil (qs (W.ret (aA (QF.aB trivial rfl ?_)))))));rw[M];rfl
 have hl:l.length=m.length:=by simp at J;omega
 refine W.skip (qs ?_);iterate 2 refine W.seq ?_
 refine W.region ?_;iterate 3 refine pE rfl ?_
 refine WO.nil (qs (W.block (W.len (t:=0) rfl rfl (fun hlen=>?_))));try simp only[List.length_map,Ex.aF] at hlen
 refine W.bF (ι:={x:Nat // match x with | k=>k≤l.length∧eG p (l.drop k) (m.drop k)=eG p l m})
  (fun x=>match x.1 with | k=>[(17,.d (.v (.int .i64 ((k:Nat):Int))))]) [(1,_),(2,_),(15,_),(16,_)]
  (fun x=>match x.1 with | k=>[]) [] [] 0 (fun x=>match x.1 with | k=>l.length - k)
  [] ⟨0,?_⟩ rfl ?_ ⟨rfl,rfl,rfl,rfl,rfl,rfl,rfl,rfl,trivial⟩ ?_ trivial rfl ?_
 ·exact⟨Nat.zero_le _,by simp⟩
 ·repeat' first | exact trivial | refine⟨rfl,?_⟩
 ·repeat' exact trivial
 rintro⟨k,hk,I⟩;show W _ _ _ _ _ ⟨[(17,.d (.v (.int .i64 ((k:Nat):Int)))),(1,_),(2,_),(15,_),(16,_)],[],[],0⟩;refine W.seq (W.region (pE rfl (WO.nil (qs (W.seq (ca (l:=l) (k:=k) rfl (by simp[Ex.aF,aw]) hk (fun x hx hd U=>?_) (fun he hd=>?_)))))));·
  obtain⟨y,hy,X⟩:=Ay (l:=m) (k:=k) (by omega);rw[hd,X] at I;simp only[eG] at I;have Z:=hp x y;refine W.skip (qs (W.seq (W.block (W.seq (W.region (pE rfl (pu (indexAddr (l:=Ev.c x) aa rfl rfl rfl rfl rfl rfl (Int.natCast_nonneg _) (aV hx) rfl) rfl ?_)))))));refine pE rfl (aL aa rfl rfl rfl (pE rfl (ax aa rfl rfl rfl rfl rfl rfl rfl rfl (WO.nil (qs (W.seq (W.region ?_)))))));iterate 2 refine pE rfl ?_
  refine pu (indexAddr (l:=Ev.c y) aa rfl rfl rfl rfl rfl rfl (Int.natCast_nonneg _) (aV hy) rfl) rfl ?_;refine pE rfl (aL aa rfl rfl rfl (ax aa rfl rfl rfl rfl rfl rfl rfl rfl (WO.nil (qs (W.seq (W.region (pE rfl (pE rfl (pE rfl (pu (ay rfl rfl rfl Z rfl) rfl ?_))))))))));refine pE rfl (WO.nil (qs (an rfl (fun N=>?_) (fun N=>?_))));·
   have O:p x y=false:=by simpa using N
   have M:eG p l m=false:=by rw[←I,O];rfl
   refine W.seq (W.region (pE rfl (WO.nil (qs (W.ret (aJ (aA (dV (aJ (aA (QF.aB trivial rfl ?_)))))))))));rw[M];rfl
  have O:p x y=true:=by simpa using N
  rw[O,Bool.true_and] at I;refine W.skip (bz (qs (W.region ?_)));iterate 2 refine pE rfl ?_
  refine WO.nil (W.bU [] ⟨k+1,?_⟩ ?_ rfl ?_ ⟨rfl,rfl,rfl,rfl,rfl,rfl,rfl,rfl,trivial⟩ ?_ trivial rfl);·exact⟨U,I⟩
  ·dsimp only;omega
  ·repeat' first | exact trivial | refine⟨aP (by assumption) (by assumption),?_⟩
  repeat' exact trivial
 rw[hd,dropEnd (l:=m) (by omega)] at I;have M:eG p l m=true:=I.symm;refine W.exit (bb (be (ba (qs (W.seq (W.region (pE rfl (WO.nil (qs (W.ret (QF.aB trivial rfl ?_)))))))))));rw[M];rfl
theorem xL (fid:Nat) (p:aW→aW→Bool) (hp:∀ x y:aW,az Tryz.prog fid [.ag (aW.c x),.ag (aW.c y)] (.d (.v (.bool (p x y)))) 0) (l m:List aW) :
 az Tryz.prog 47 [.d (.sl (l.map aW.c)),.d (.sl (m.map aW.c)),.clo fid []] (.d (.v (.bool (eG p l m)))) 0:=by
 refine az.bl (n:=32) (ts:=[6]) Tryz.func47 (by kernel_rfl) rfl Tryz.ntmps47 Tryz.results47 rfl rfl fun C hC hG=>?_;refine W.seq (W.region (pE rfl (WO.nil (qs ?_))));iterate 2 refine W.seq ?_
 refine W.region ?_;iterate 5 refine pE rfl ?_
 refine WO.nil (qs (an rfl (fun J=>?_) (fun J=>?_)));·
  have M:eG p l m=false:=by
   cases he:eG p l m with
   | false=>rfl
   | true=>have:=qD he;simp at J;omega
  refine W.seq (W.region (pE rfl (WO.nil (qs (W.ret (aA (QF.aB trivial rfl ?_)))))));rw[M];rfl
 have hl:l.length=m.length:=by simp at J;omega
 refine W.skip (qs ?_);iterate 2 refine W.seq ?_
 refine W.region ?_;iterate 3 refine pE rfl ?_
 refine WO.nil (qs (W.block (W.len (t:=0) rfl rfl (fun hlen=>?_))));try simp only[List.length_map,Ex.aF] at hlen
 refine W.bF (ι:={x:Nat // match x with | k=>k≤l.length∧eG p (l.drop k) (m.drop k)=eG p l m})
  (fun x=>match x.1 with | k=>[(17,.d (.v (.int .i64 ((k:Nat):Int))))]) [(1,_),(2,_),(15,_),(16,_)]
  (fun x=>match x.1 with | k=>[]) [] [] 0 (fun x=>match x.1 with | k=>l.length - k)
  [] ⟨0,?_⟩ rfl ?_ ⟨rfl,rfl,rfl,rfl,rfl,rfl,rfl,rfl,trivial⟩ ?_ trivial rfl ?_
 ·exact⟨Nat.zero_le _,by simp⟩
 ·repeat' first | exact trivial | refine⟨rfl,?_⟩
 ·repeat' exact trivial
 rintro⟨k,hk,I⟩;show W _ _ _ _ _ ⟨[(17,.d (.v (.int .i64 ((k:Nat):Int)))),(1,_),(2,_),(15,_),(16,_)],[],[],0⟩;refine W.seq (W.region (pE rfl (WO.nil (qs (W.seq (ca (l:=l) (k:=k) rfl (by simp[Ex.aF,aw]) hk (fun x hx hd U=>?_) (fun he hd=>?_)))))));·
  obtain⟨y,hy,X⟩:=Ay (l:=m) (k:=k) (by omega);rw[hd,X] at I;simp only[eG] at I;have Z:=hp x y;refine W.skip (qs (W.seq (W.block (W.seq (W.region (pE rfl (pu (indexAddr (l:=aW.c x) aa rfl rfl rfl rfl rfl rfl (Int.natCast_nonneg _) (aV hx) rfl) rfl ?_)))))));refine pE rfl (aL aa rfl rfl rfl (pE rfl (ax aa rfl rfl rfl rfl rfl rfl rfl rfl (WO.nil (qs (W.seq (W.region ?_)))))));iterate 2 refine pE rfl ?_
  refine pu (indexAddr (l:=aW.c y) aa rfl rfl rfl rfl rfl rfl (Int.natCast_nonneg _) (aV hy) rfl) rfl ?_;refine pE rfl (aL aa rfl rfl rfl (ax aa rfl rfl rfl rfl rfl rfl rfl rfl (WO.nil (qs (W.seq (W.region (pE rfl (pE rfl (pE rfl (pu (ay rfl rfl rfl Z rfl) rfl ?_))))))))));refine pE rfl (WO.nil (qs (an rfl (fun N=>?_) (fun N=>?_))));·
   have O:p x y=false:=by simpa using N
   have M:eG p l m=false:=by rw[←I,O];rfl
   refine W.seq (W.region (pE rfl (WO.nil (qs (W.ret (aJ (aA (dV (aJ (aA (QF.aB trivial rfl ?_)))))))))));rw[M];rfl
  have O:p x y=true:=by simpa using N
  rw[O,Bool.true_and] at I;refine W.skip (bz (qs (W.region ?_)));iterate 2 refine pE rfl ?_
  refine WO.nil (W.bU [] ⟨k+1,?_⟩ ?_ rfl ?_ ⟨rfl,rfl,rfl,rfl,rfl,rfl,rfl,rfl,trivial⟩ ?_ trivial rfl);·exact⟨U,I⟩
  ·dsimp only;omega
  ·repeat' first | exact trivial | refine⟨aP (by assumption) (by assumption),?_⟩
  repeat' exact trivial
 rw[hd,dropEnd (l:=m) (by omega)] at I;have M:eG p l m=true:=I.symm;refine W.exit (bb (be (ba (qs (W.seq (W.region (pE rfl (WO.nil (qs (W.ret (QF.aB trivial rfl ?_)))))))))));rw[M];rfl
theorem BV (p q:aW):az Tryz.prog 49 [.ag p.c,.ag q.c] (.d (.v (.bool (kB p q)))) 0:=by
 refine az.bl (n:=31) (ts:=[4]) Tryz.func49 (by kernel_rfl) rfl Tryz.ntmps49 Tryz.results49 rfl rfl fun C hC I=>?_;refine W.seq (W.region (cw rfl rfl rfl (cw rfl rfl rfl (pE rfl (WO.nil (qs (W.seq ?_)))))));apply aO;(case hb=>rfl);·repeat' first | refine bt rfl rfl rfl | refine aG rfl rfl ?_ | refine aD rfl rfl rfl rfl ?_ | refine pE rfl ?_ | refine pu (ay rfl rfl rfl (xV 94 tX Dr p.evs q.evs) rfl) rfl ?_ | refine WO.nil ?_ | (apply bj;(case hj=>rfl);(case hl=>rfl))
 refine qs (W.ret (QF.aB trivial rfl ?_));simp only[norm,aT,kB];cases decide (p.thread=q.thread) <;> cases decide (p.serial=q.serial) <;> cases decide (p.lost=q.lost) <;> rfl
theorem Ak (p q:aW):az Tryz.prog 48 [.ag p.c,.ag q.c] (.d (.v (.bool (kB p q)))) 0:=by refine az.bl (n:=8) (ts:=[4]) Tryz.func48 (by kernel_rfl) rfl Tryz.ntmps48 Tryz.results48 rfl rfl fun C hC I=>?_;refine W.seq (W.region (cw rfl rfl rfl (cw rfl rfl rfl (pE rfl (WO.nil (qs (W.seq (W.region (pE rfl (pE rfl (pu (ay rfl rfl rfl (BV p q) rfl) rfl ?_)))))))))));refine pE rfl (WO.nil (qs (W.ret (QF.aB trivial rfl ?_))));rfl
theorem qx (a b:iF):az Tryz.prog 17 [.ag a.c,.ag b.c] (.d (.v (.bool (oL a b)))) 0:=by
 refine az.bl (n:=37) (ts:=[4]) Tryz.func17 (by kernel_rfl) rfl Tryz.ntmps17 Tryz.results17 rfl rfl fun C hC I=>?_;refine W.seq (W.region (cw rfl rfl rfl (cw rfl rfl rfl (pE rfl (WO.nil (qs (W.seq (W.xx aa 7 2 (by kernel_rfl) rfl rfl ?_))))))));refine qt rfl (ev aa rfl) rfl ?_;refine qt rfl (ev aa rfl) rfl ?_;refine qt rfl (ev aa rfl) rfl ?_;refine qt rfl (ev aa rfl) rfl ?_;refine wT 0 rfl rfl rfl rfl rfl rfl ?_;refine wT 1 rfl rfl rfl rfl rfl rfl ?_;refine CG 4 0 rfl rfl rfl rfl rfl rfl rfl rfl rfl rfl rfl rfl ?_;refine CE.nil ?_;refine ax aa rfl rfl rfl rfl rfl rfl rfl rfl (WO.nil (qs (W.seq ?_)));apply aO;(case hb=>rfl);·repeat' first | refine bt rfl rfl rfl | refine aG rfl rfl ?_ | refine aD rfl rfl rfl rfl ?_ | refine pE rfl ?_ | refine pu (ay rfl rfl rfl (zB a.ts b.ts) rfl) rfl ?_ | refine pu (ay rfl rfl rfl (zN a.ds b.ds) rfl) rfl ?_ | refine pu (ay rfl rfl rfl zI rfl) rfl ?_ | refine pu (ay rfl rfl rfl (xL 48 kB Ak a.ps b.ps) rfl) rfl ?_ | refine WO.nil ?_ | (apply bj;(case hj=>rfl);(case hl=>rfl))
 refine qs (W.ret (QF.aB trivial rfl ?_));simp only[norm,aT,oL];cases decide (a.ts=b.ts) <;> cases decide (a.ds=b.ds) <;> rfl
end Go.Proofs.YtpiaiiopakafhaaGreatDoor
namespace Go.Proofs.YtpiaiiopakafhaaGreatDoor
open Go.Ab Go.Tb
set_option maxRecDepth 10000
set_option maxHeartbeats 1000000
attribute [local irreducible] W WO Pu QS QB QL QF QV bu CH QE
theorem Af (l:List Int) (s:Int):az Tryz.prog 162 [.d (.sl (l.map ic)),.d (.v (.int .i64 s))] (.d (.v (.int .i64 (idx (l.findIdx? fun x=>decide (s=x)))))) 0:=by
 refine az.bl (n:=19) (ts:=[4]) Tryz.func162 (by kernel_rfl) rfl Tryz.ntmps162 Tryz.results162 rfl rfl fun C hC U=>?_;refine W.seq (W.region (pE rfl (WO.nil (qs ?_))));iterate 2 refine W.seq ?_
 refine W.region ?_;iterate 3 refine pE rfl ?_
 refine WO.nil (qs (W.block (W.len (t:=0) rfl rfl (fun hlen=>?_))));try simp only[List.length_map,Ex.aF] at hlen
 refine W.bF (ι:={x:Nat // match x with | k=>k≤l.length∧bX (fun x=>decide (s=x)) l k})
  (fun x=>match x.1 with | k=>[(8,.d (.v (.int .i64 ((k:Nat):Int))))]) [(0,_),(1,_),(7,_)]
  (fun x=>match x.1 with | k=>[]) [] [] 0 (fun x=>match x.1 with | k=>l.length - k)
  [] ⟨0,?_⟩ rfl ?_ ⟨rfl,rfl,rfl,rfl,rfl,rfl,trivial⟩ ?_ trivial rfl ?_
 ·exact⟨Nat.zero_le _,bX.zero⟩
 ·repeat' first | exact trivial | refine⟨rfl,?_⟩
 ·repeat' exact trivial
 rintro⟨k,O,J⟩;show W _ _ _ _ _ ⟨[(8,.d (.v (.int .i64 ((k:Nat):Int)))),(0,_),(1,_),(7,_)],[],[],0⟩;refine W.seq (W.region (pE rfl (WO.nil (qs (W.seq (ca (l:=l) (k:=k) rfl (by simp[Ex.aF,aw]) O (fun x M hd N=>?_) (fun he hd=>?_)))))));·
  refine W.skip (qs (W.seq (W.block (W.seq (W.region ?_)))));iterate 2 refine pE rfl ?_
  refine WO.nil (qs (W.seq (W.region ?_)));iterate 3 refine pE rfl ?_
  refine pu (indexAddr aa rfl rfl rfl rfl rfl rfl (Int.natCast_nonneg _) (aV (by assumption)) rfl) rfl ?_;refine pE rfl (pE rfl (WO.nil (qs (an rfl (fun I=>?_) (fun I=>?_)))));·
   refine W.seq (W.region ?_);iterate 2 refine pE rfl ?_
   refine WO.nil (qs (W.ret (aJ (aA (dV (aJ (aA (QF.aB trivial rfl ?_))))))));simp only[norm,aT];rw[J.found M I];rfl
  refine W.skip (bz (qs (W.region ?_)));iterate 2 refine pE rfl ?_
  refine WO.nil (W.bU [] ⟨k+1,?_⟩ ?_ rfl ?_ ⟨rfl,rfl,rfl,rfl,rfl,rfl,trivial⟩ ?_ trivial rfl);·exact⟨N,J.step M I⟩
  ·dsimp only;omega
  ·repeat' first | exact trivial | refine⟨aP (by assumption) (by assumption),?_⟩
  repeat' exact trivial
 refine W.exit (bb (be (ba (qs (W.seq (W.region (pE rfl (WO.nil (qs (W.ret (QF.aB trivial rfl ?_)))))))))));simp only[norm,aT];rw[J.end_ he];rfl
theorem va (l:List Int) (s:Int):az Tryz.prog 121 [.d (.sl (l.map ic)),.d (.v (.int .i64 s))] (.d (.v (.bool (l.any fun x=>decide (s=x))))) 0:=by
 refine az.bl (n:=9) (ts:=[4]) Tryz.func121 (by kernel_rfl) rfl Tryz.ntmps121 Tryz.results121 rfl rfl fun C hC I=>?_;refine W.seq (W.region (pE rfl (WO.nil (qs (W.seq (W.region ?_))))));iterate 2 refine pE rfl ?_
 refine pu (ay rfl rfl rfl (Af ..) rfl) rfl ?_;iterate 2 refine pE rfl ?_
 refine WO.nil (qs (W.ret (QF.aB trivial rfl ?_)));simp only[norm,aT];rw[←iS]
end Go.Proofs.YtpiaiiopakafhaaGreatDoor
namespace Go.Proofs.YtpiaiiopakafhaaGreatDoor
open Go.Ab Go.Tb
set_option maxRecDepth 10000
set_option maxHeartbeats 1000000
attribute [local irreducible] W WO Pu QS QB QL QF QV bu CH QE
end Go.Proofs.YtpiaiiopakafhaaGreatDoor
namespace Go.Proofs.YtpiaiiopakafhaaGreatDoor
open Go.Ab Go.Tb
set_option maxRecDepth 10000
set_option maxHeartbeats 1000000
attribute [local irreducible] W WO Pu QS QB QL QF QV bu CH QE
end Go.Proofs.YtpiaiiopakafhaaGreatDoor
namespace Go.Proofs.YtpiaiiopakafhaaGreatDoor
open Go.Ab Go.Tb
set_option maxRecDepth 10000
set_option maxHeartbeats 1000000
attribute [local irreducible] W WO Pu QS QB QL QF QV bu CH QE
end Go.Proofs.YtpiaiiopakafhaaGreatDoor
namespace Go.Proofs.YtpiaiiopakafhaaGreatDoor
open Go.Ab Go.Tb
set_option maxRecDepth 10000
set_option maxHeartbeats 1000000
attribute [local irreducible] W WO Pu QS QB QL QF QV bu CH QE
def rr (l:List Ev) (k:Nat):Option Int:=if k=0 then none else (l[k - 1]?).map Ev.time
theorem sub_one {k:Nat} (h:0 < k) (hm:(k:Int)≤9223372036854775807):IntKind.i64.wrap ((k:Int) - 1)=((k - 1:Nat):Int):=by rw[wrap64 (by omega)];omega
theorem wu (l:List Ev):az Tryz.prog 156 [.d (.sl (l.map Ev.c))] (.d (.v (.int .i64 (iz l none)))) 0:=by
 refine az.bl (n:=32) (ts:=[2]) Tryz.func156 (by kernel_rfl) rfl Tryz.ntmps156 Tryz.results156 rfl rfl fun C hC hG=>?_;refine W.seq (W.region (pE rfl (WO.nil (qs ?_))));iterate 2 refine W.seq ?_
 refine W.region ?_;iterate 3 refine pE rfl ?_
 refine WO.nil (qs (W.block (W.len (t:=0) rfl rfl (fun hlen=>?_))));try simp only[List.length_map,Ex.aF] at hlen
 refine W.bF (ι:={x:Nat // match x with | k=>k≤l.length∧iz (l.drop k) (rr l k)=iz l none})
  (fun x=>match x.1 with | k=>[(8,.d (.v (.int .i64 ((k:Nat):Int))))]) [(0,_),(6,_),(7,_)]
  (fun x=>match x.1 with | k=>[]) [] [] 0 (fun x=>match x.1 with | k=>l.length - k)
  [] ⟨0,?_⟩ rfl ?_ ⟨rfl,rfl,rfl,rfl,rfl,rfl,trivial⟩ ?_ trivial rfl ?_
 ·exact⟨Nat.zero_le _,rfl⟩
 ·repeat' first | exact trivial | refine⟨rfl,?_⟩
 ·repeat' exact trivial
 rintro⟨k,hk,I⟩;show W _ _ _ _ _ ⟨[(8,.d (.v (.int .i64 ((k:Nat):Int)))),(0,_),(6,_),(7,_)],[],[],0⟩;refine W.seq (W.region (pE rfl (WO.nil (qs (W.seq (ca (l:=l) (k:=k) rfl (by simp[Ex.aF,aw]) hk (fun e Z hd ad=>?_) (fun he hd=>?_)))))));·
  rw[hd] at I;simp only[iz] at I;obtain⟨p,hp⟩:∃ p:Ev,0 < k→l[k - 1]? = some p:=⟨l[k - 1]'(by omega),fun _=>by simp⟩;have O:xY (rr l k) e.time=(decide (0 < k) && decide (e.time < p.time)):=by
   unfold rr xY;by_cases q:k=0;·simp[q]
   rw[if_neg q,hp (by omega)];simp;omega
  rw[O] at I;have U:rr l (k+1)=some e.time:=by unfold rr;rw[if_neg (by omega),Nat.add_sub_cancel,Z];rfl
  refine W.skip (qs (W.seq (W.block (W.seq (W.region (pE rfl (pu (indexAddr aa rfl rfl rfl rfl rfl rfl (Int.natCast_nonneg _) (aV Z) rfl) rfl ?_)))))));refine pE rfl (aL aa rfl rfl rfl (pE rfl (ax aa rfl rfl rfl rfl rfl rfl rfl rfl (WO.nil (qs ?_)))));iterate 2 refine W.seq ?_
  refine W.region (pE rfl (pu (ay rfl rfl rfl (tQ e) rfl) rfl ?_));refine pE rfl (WO.nil (qs (W.seq (W.region ?_))));iterate 2 refine pE rfl ?_
  refine WO.nil (qs (an rfl (fun J=>?_) (fun J=>?_)));·
   have X:cn e≠0:=by simpa using J
   rw[if_pos X] at I;refine W.seq (W.region ?_);iterate 2 refine pE rfl ?_
   refine WO.nil (qs (W.ret (aA (aJ (aA (dV (aJ (aA (QF.aB trivial rfl ?_)))))))));simp only[norm,aT,←I]
  have X:cn e=0:=by simpa using J
  rw[if_neg (by simp[X])] at I;refine W.skip (qs (W.seq ?_));apply mL aa;(case hb=>rfl);(case hB=>kernel_rfl);·
   iterate 3 refine aK (ev aa rfl) rfl ?_
   apply mz;(case hj=>rfl);(case hl=>rfl);·
    intro g20;refine cL rfl rfl (ev aa rfl) rfl ?_;refine cL rfl rfl (ev aa rfl) rfl ?_;refine cL rfl rfl (ev aa rfl) rfl ?_;refine cL rfl rfl (ev aa rfl) rfl ?_;refine cL rfl rfl (dn (ev aa rfl) (y:=((k - 1:Nat):Int)) (sub_one (by simpa using g20) (by simp only[maxLen] at hlen;omega))) rfl ?_;refine cL rfl rfl (indexAddr (l:=p.c) aa rfl rfl rfl rfl rfl rfl (Int.natCast_nonneg _) (aV (hp (by simpa using g20))) rfl) rfl ?_;refine cL rfl rfl (ev aa rfl) rfl ?_;refine cL rfl rfl (ev aa rfl) rfl ?_;refine cL rfl rfl (ev aa rfl) rfl ?_;refine aK (ev aa rfl) rfl ?_;refine CH.nil ?_;refine bt rfl rfl rfl
   intro g20;iterate 9 refine qR rfl rfl rfl rfl ?_
   refine aK (ev aa rfl) rfl ?_;refine CH.nil ?_;refine bt rfl rfl rfl
  refine qs (an rfl (fun M=>?_) (fun M=>?_));·
   have N:(decide (0 < k) && decide (e.time < p.time))=true:=by simp at M ⊢;omega
   rw[if_pos N] at I;refine W.seq (W.region (pE rfl (WO.nil (qs (W.ret (aJ (aA (dV (aJ (aA (QF.aB trivial rfl ?_)))))))))));simp only[norm,aT,←I]
  have N:(decide (0 < k) && decide (e.time < p.time))=false:=by simp at M ⊢;omega
  rw[if_neg (by rw[N];decide)] at I;refine W.skip (bz (qs (W.region ?_)));iterate 2 refine pE rfl ?_
  refine WO.nil (W.bU [] ⟨k+1,?_⟩ ?_ rfl ?_ ⟨rfl,rfl,rfl,rfl,rfl,rfl,trivial⟩ ?_ trivial rfl);·exact⟨ad,by rw[U];exact I⟩
  ·dsimp only;omega
  ·repeat' first | exact trivial | refine⟨aP (by assumption) (by assumption),?_⟩
  repeat' exact trivial
 rw[hd] at I;simp only[iz] at I;refine W.exit (bb (be (ba (qs (W.seq (W.region (pE rfl (WO.nil (qs (W.ret (QF.aB trivial rfl ?_)))))))))));simp only[norm,aT,←I]
theorem sG (fid:Nat) (caps:List A) (I:Still caps) (p:Int×Int→Bool) (hp:∀ x:Int×Int,az Tryz.prog fid (.ag (eB x)::caps) (.d (.v (.bool (p x)))) 0) (l:List (Int×Int)) :
 az Tryz.prog 155 [.d (.sl (l.map eB)),.clo fid caps] (.d (.v (.int .i64 (idx (l.findIdx? p))))) 0:=by
 refine az.bl (n:=19) (ts:=[4]) Tryz.func155 (by kernel_rfl) rfl Tryz.ntmps155 Tryz.results155 rfl rfl fun C hC X=>?_;refine W.seq (W.region (pE rfl (WO.nil (qs ?_))));iterate 2 refine W.seq ?_
 refine W.region ?_;iterate 3 refine pE rfl ?_
 refine WO.nil (qs (W.block (W.len (t:=0) rfl rfl (fun hlen=>?_))));try simp only[List.length_map,Ex.aF] at hlen
 refine W.bF (ι:={x:Nat // match x with | k=>k≤l.length∧bX p l k})
  (fun x=>match x.1 with | k=>[(8,.d (.v (.int .i64 ((k:Nat):Int))))]) [(0,_),(1,_),(7,_)]
  (fun x=>match x.1 with | k=>[]) [] [] 0 (fun x=>match x.1 with | k=>l.length - k)
  [] ⟨0,?_⟩ rfl ?_ ⟨rfl,(by first | rfl | exact I.2),rfl,(by first | rfl | exact I.2),rfl,(by first | rfl | exact I.2),trivial⟩ ?_ trivial rfl ?_
 ·exact⟨Nat.zero_le _,bX.zero⟩
 ·repeat' first | exact trivial | refine⟨rfl,?_⟩
 ·repeat' exact trivial
 rintro⟨k,U,M⟩;show W _ _ _ _ _ ⟨[(8,.d (.v (.int .i64 ((k:Nat):Int)))),(0,_),(1,_),(7,_)],[],[],0⟩;refine W.seq (W.region (pE rfl (WO.nil (qs (W.seq (ca (l:=l) (k:=k) rfl (by simp[Ex.aF,aw]) U (fun x N hd O=>?_) (fun he hd=>?_)))))));·
  refine W.skip (qs (W.seq (W.block (W.seq (W.region ?_)))));iterate 2 refine pE rfl ?_
  refine WO.nil (qs (W.seq (W.region ?_)));iterate 3 refine pE rfl ?_
  refine pu (indexAddr aa rfl rfl rfl rfl rfl rfl (Int.natCast_nonneg _) (aV N) rfl) rfl ?_;refine pE rfl (pu (ay rfl rfl (by rw[List.map_append,I.1 _ 3];rfl) (hp x) rfl) rfl ?_);refine WO.nil (qs (an rfl (fun J=>?_) (fun J=>?_)));·
   refine W.seq (W.region ?_);iterate 2 refine pE rfl ?_
   refine WO.nil (qs (W.ret (aJ (aA (dV (aJ (aA (QF.aB trivial rfl ?_))))))));simp only[norm,aT];rw[M.found N J];rfl
  refine W.skip (bz (qs (W.region ?_)));iterate 2 refine pE rfl ?_
  refine WO.nil (W.bU [] ⟨k+1,?_⟩ ?_ rfl ?_ ⟨rfl,(by first | rfl | exact I.2),rfl,(by first | rfl | exact I.2),rfl,(by first | rfl | exact I.2),trivial⟩ ?_ trivial rfl);·exact⟨O,M.step N J⟩
  ·dsimp only;omega
  ·repeat' first | exact trivial | refine⟨aP (by assumption) (by assumption),?_⟩
  repeat' exact trivial
 refine W.exit (bb (be (ba (qs (W.seq (W.region (pE rfl (WO.nil (qs (W.ret (QF.aB trivial rfl ?_)))))))))));simp only[norm,aT];rw[M.end_ he];rfl
theorem yd (fid:Nat) (caps:List A) (I:Still caps) (p:Int×Int→Bool) (hp:∀ x:Int×Int,az Tryz.prog fid (.ag (eB x)::caps) (.d (.v (.bool (p x)))) 0) (l:List (Int×Int)) :
 az Tryz.prog 109 [.d (.sl (l.map eB)),.clo fid caps] (.d (.v (.bool (l.any p)))) 0:=by
 refine az.bl (n:=9) (ts:=[4]) Tryz.func109 (by kernel_rfl) rfl Tryz.ntmps109 Tryz.results109 rfl rfl fun C hC J=>?_;refine W.seq (W.region (pE rfl (WO.nil (qs (W.seq (W.region ?_))))));iterate 2 refine pE rfl ?_
 refine pu (ay (args:=[.d (.sl (l.map eB)),.clo fid caps]) rfl rfl (by simp[conv,I.1 _ 2]) (sG fid caps I p hp l) rfl) rfl ?_;iterate 2 refine pE rfl ?_
 refine WO.nil (qs (W.ret (QF.aB trivial rfl ?_)));simp only[norm,aT];rw[←iS]
theorem AV (id:Int) (d:Int×Int):az Tryz.prog 188 [.ag (eB d),.row [.d (.v (.int .i64 id))]] (.d (.v (.bool (decide (d.1=id))))) 0:=by
 refine az.bl (n:=8) (ts:=[3]) Tryz.func188 (by kernel_rfl) rfl Tryz.ntmps188 Tryz.results188 rfl rfl fun C hC I=>?_;refine W.seq (W.region (cw rfl rfl rfl (pE rfl (WO.nil (qs (W.seq (W.region (pE rfl (pE rfl (pE rfl ?_))))))))));iterate 2 refine pE rfl ?_
 refine WO.nil (qs (W.ret (QF.aB trivial rfl ?_)));rfl
theorem zt (l:List (Int×Int)) (id:Int):az Tryz.prog 174 [.d (.sl (l.map eB)),.d (.v (.int .i64 id))] (.d (.v (.int .i64 (idx (l.findIdx? fun d=>decide (d.1=id)))))) 0:=by
 refine az.bl (n:=8) (ts:=[4]) Tryz.func174 (by kernel_rfl) rfl Tryz.ntmps174 Tryz.results174 rfl rfl fun C hC I=>?_;refine W.seq (W.region (cw rfl rfl rfl (pE rfl (WO.nil (qs (W.seq (W.region ?_)))))));iterate 2 refine pE rfl ?_
 refine pu (ay rfl rfl rfl (sG _ _ ⟨fun _ _=>rfl,rfl⟩ _ (AV id) l) rfl) rfl ?_;refine pE rfl (WO.nil (qs (W.ret (QF.aB trivial rfl ?_))));rfl
theorem Bn (t:bJ) (d:Int×Int):az Tryz.prog 110 [.ag (eB d),.row (t.c.map A.d)] (.d (.v (.bool (decide (d.1=0))))) 0:=by
 refine az.bl (n:=9) (ts:=[3]) Tryz.func110 (by kernel_rfl) rfl Tryz.ntmps110 Tryz.results110 rfl rfl fun C hC I=>?_;refine W.seq (W.region (cw rfl rfl rfl (pE rfl (WO.nil (qs (W.seq (W.region (pE rfl (pE rfl (pE rfl (pE rfl ?_)))))))))));iterate 2 refine pE rfl ?_
 refine WO.nil (qs (W.ret (QF.aB trivial rfl ?_)));rfl
end Go.Proofs.YtpiaiiopakafhaaGreatDoor
namespace Go.Proofs.YtpiaiiopakafhaaGreatDoor
open Go.Ab Go.Tb
set_option maxRecDepth 10000
set_option maxHeartbeats 1000000
attribute [local irreducible] W WO Pu QS QB QL QF QV bu CH QE
theorem CK {k:Nat} {d:Int×Int} (h:dq[k]? = some d):k=0∧d=(0,0):=by
 match k with
 | 0=>simp[dq] at h;exact⟨rfl,h.symm⟩
 | k+1=>simp[dq] at h
theorem yh:az Tryz.prog 153 [.d (.sl (dq.map eB))] (.d (.v (.int .i64 0))) 0:=by
 refine az.bl (n:=38) (ts:=[2]) Tryz.func153 (by kernel_rfl) rfl Tryz.ntmps153 Tryz.results153 rfl rfl fun C hC Z=>?_;refine W.seq (W.region (pE rfl (WO.nil (qs ?_))));iterate 2 refine W.seq ?_
 refine W.region ?_;iterate 3 refine pE rfl ?_
 refine WO.nil (qs (W.block ?_))
 refine W.bF (ι:={x:Nat // match x with | k=>k≤dq.length})
  (fun x=>match x.1 with | k=>[(7,.d (.v (.int .i64 ((k:Nat):Int))))]) [(0,_),(5,_),(6,_)]
  (fun x=>match x.1 with | k=>[]) [] [] 0 (fun x=>match x.1 with | k=>dq.length - k)
  [] ⟨0,?_⟩ rfl ?_ ⟨rfl,rfl,rfl,rfl,rfl,rfl,trivial⟩ ?_ trivial rfl ?_
 ·exact Nat.zero_le _
 ·repeat' first | exact trivial | refine⟨rfl,?_⟩
 ·repeat' exact trivial
 rintro⟨k,O⟩;show W _ _ _ _ _ ⟨[(7,.d (.v (.int .i64 ((k:Nat):Int)))),(0,_),(5,_),(6,_)],[],[],0⟩;refine W.seq (W.region (pE rfl (WO.nil (qs (W.seq (ca (l:=dq) (k:=k) rfl (by simp[Ex.aF,aw]) O (fun d U hd X=>?_) (fun he hd=>?_)))))));·
  obtain⟨M,N⟩:=CK U;subst M;subst N;refine W.skip (qs (W.seq (W.block (W.seq (W.region (pE rfl (pu (indexAddr (l:=eB (0,0)) aa rfl rfl rfl rfl rfl rfl (by decide) rfl rfl) rfl ?_)))))));refine pE rfl (aL aa rfl rfl rfl (pE rfl (ax aa rfl rfl rfl rfl rfl rfl rfl rfl (WO.nil (qs ?_)))));iterate 2 refine W.seq ?_
  apply aO;(case hb=>rfl);·repeat' first | refine bt rfl rfl rfl | refine aG rfl rfl ?_ | refine pE rfl ?_ | refine WO.nil ?_
  refine qs (an rfl (fun I=>?_) (fun I=>?_));·exfalso;simp at I
  refine W.skip (qs (W.seq (W.eW aa (by kernel_rfl) ?_)));iterate 2 refine aK (ev aa rfl) rfl ?_
  refine aK (vM (fn:=eB) (l:=dq) (i:=0) (j:=0) (r:=[]) aa rfl rfl rfl rfl rfl (fun _=>rfl) rfl rfl (by decide) (by decide) (by decide) rfl) rfl ?_;refine aK (ev aa rfl) rfl ?_;refine aK (ev aa rfl) rfl ?_;refine aK (ay rfl rfl rfl (zt [] 0) rfl) rfl ?_;refine aK (ev aa rfl) rfl ?_;refine CH.nil ?_;refine qs (an rfl (fun J=>?_) (fun J=>?_));·exfalso;simp[idx] at J
  refine W.skip (bz (qs (W.region ?_)));iterate 2 refine pE rfl ?_
  refine WO.nil (W.bU [] ⟨1,?_⟩ ?_ rfl ?_ ⟨rfl,rfl,rfl,rfl,rfl,rfl,trivial⟩ ?_ trivial rfl);·decide
  ·dsimp only;omega
  ·repeat' first | exact trivial | refine⟨rfl,?_⟩
  repeat' exact trivial
 refine W.exit (bb (be (ba (qs (W.seq (W.region (pE rfl (WO.nil (qs (W.ret (QF.aB trivial rfl ?_)))))))))));rfl
theorem BB:az Tryz.prog 108 [.d (.sl (dq.map eB)),.d (.sl [])] (.d (.v (.int .i64 0))) 0:=by
 refine az.bl (n:=43) (ts:=[4]) Tryz.func108 (by kernel_rfl) rfl Tryz.ntmps108 Tryz.results108 rfl rfl fun C hC Z=>?_;refine W.seq (W.region (pE rfl (WO.nil (qs ?_))));iterate 2 refine W.seq ?_
 refine W.region ?_;iterate 3 refine pE rfl ?_
 refine WO.nil (qs (an rfl (fun I=>?_) (fun I=>?_)));·exfalso;simp[dq] at I
 refine W.skip (qs ?_);iterate 2 refine W.seq ?_
 apply aO;(case hb=>rfl);·repeat' first | refine bt rfl rfl rfl | refine aG rfl rfl ?_ | refine pE rfl ?_ | refine WO.nil ?_
 refine qs (an rfl (fun J=>?_) (fun J=>?_));·exfalso;simp[dq] at J
 refine W.skip (qs ?_);iterate 2 refine W.seq ?_
 refine W.region (pE rfl (pu (indexAddr (l:=eB (0,0)) aa rfl rfl rfl rfl rfl rfl (by decide) rfl rfl) rfl ?_));refine pE rfl (pu (build aa rfl rfl rfl rfl) rfl ?_);refine pE rfl (WO.nil (qs (an rfl (fun M=>?_) (fun M=>?_))));·exfalso;simp at M <;> omega
 refine W.skip (qs ?_);iterate 2 refine W.seq ?_
 refine W.region (pE rfl (pu (ay rfl rfl rfl yh rfl) rfl ?_));refine pE rfl (WO.nil (qs (W.seq (W.region ?_))));iterate 2 refine pE rfl ?_
 refine WO.nil (qs (an rfl (fun N=>?_) (fun N=>?_)));·exfalso;simp at N
 refine W.skip (qs ?_);iterate 2 refine W.seq ?_
 refine W.region ?_;iterate 3 refine pE rfl ?_
 refine WO.nil (qs (W.block ?_))
 refine W.bF (ι:={x:Nat // match x with | k=>k≤([]:List (List D)).length})
  (fun x=>match x.1 with | k=>[(32,.d (.v (.int .i64 ((k:Nat):Int))))]) [(0,_),(30,_),(31,_)]
  (fun x=>match x.1 with | k=>[]) [] [] 0 (fun x=>match x.1 with | k=>([]:List (List D)).length - k)
  [] ⟨0,?_⟩ rfl ?_ ⟨rfl,rfl,rfl,rfl,rfl,rfl,trivial⟩ ?_ trivial rfl ?_
 ·exact Nat.zero_le _
 ·repeat' first | exact trivial | refine⟨rfl,?_⟩
 ·repeat' exact trivial
 rintro⟨k,O⟩;show W _ _ _ _ _ ⟨[(32,.d (.v (.int .i64 ((k:Nat):Int)))),(0,_),(30,_),(31,_)],[],[],0⟩;refine W.seq (W.region (pE rfl (WO.nil (qs (W.seq (ca (l:=([]:List (List D))) (k:=k) rfl (by simp[Ex.aF,aw]) O (fun d U hd X=>?_) (fun he hd=>?_)))))));·exfalso;simp at U
 refine W.exit (bb (be (ba (qs (W.seq (W.region (pE rfl (WO.nil (qs (W.ret (QF.aB trivial rfl ?_)))))))))));rfl
theorem Cz (t:bJ):az Tryz.prog 109 [.d (.sl (dq.map eB)),.clo 110 [.row (t.c.map A.d)]] (.d (.v (.bool true))) 0:=
 yd _ _ ⟨fun _ _=>rfl,rfl⟩ _ (Bn t) dq
theorem zG (p:aW) (h1:0≤p.thread∧p.thread≤1000000000000000) (h2:p.serial=0) (h3:p.lost=0) (h4:0 < p.evs.length∧p.evs.length≤1000):az Tryz.prog 111 [.ag p.c] (.d (.v (.int .i64 (iz p.evs none)))) 0:=by
 obtain⟨J,se,lo,evs⟩:=p;simp only at h1 h2 h3 h4;subst h2;subst h3;have hlen:[J,0,0].length≤maxLen:=by simp[maxLen]
 refine az.bl (n:=50) (ts:=[2]) Tryz.func111 (by kernel_rfl) rfl Tryz.ntmps111 Tryz.results111 rfl rfl fun C hC hG=>?_;refine W.seq (W.region (cw rfl rfl rfl (pE rfl (WO.nil (qs ?_)))));iterate 2 refine W.seq ?_
 refine W.region (pE rfl (pE rfl (pE rfl (pE rfl (pE rfl (pE rfl (pu (aZ aa rfl rfl rfl rfl rfl rfl rfl rfl rfl) rfl ?_)))))));iterate 2 refine pE rfl ?_
 refine WO.nil (qs (W.block ?_))
 refine W.bF (ι:={x:Nat // match x with | k=>k≤[J,0,0].length})
  (fun x=>match x.1 with | k=>[(1,.ptr 0 0),(13,.d (.v (.int .i64 ((k:Nat):Int))))]) [(11,_),(12,_)]
  (fun x=>match x.1 with | k=>[(0,(aW.c ⟨J,0,0,evs⟩).map A.d)]) [] [] 1 (fun x=>match x.1 with | k=>[J,0,0].length - k)
  [0] ⟨0,?_⟩ rfl ?_ ⟨rfl,rfl,rfl,rfl,trivial⟩ ?_ trivial rfl ?_
 ·exact Nat.zero_le _
 ·repeat' first | exact trivial | refine⟨rfl,?_⟩
 ·repeat' first | exact trivial | refine⟨rfl,?_⟩
 rintro⟨k,Z⟩;show W _ _ _ _ _ ⟨[(1,.ptr 0 0),(13,.d (.v (.int .i64 ((k:Nat):Int)))),(11,_),(12,_)],[(0,(aW.c ⟨J,0,0,evs⟩).map A.d)],[],1⟩;refine W.seq (W.region (pE rfl (WO.nil (qs (W.seq (ca (l:=[J,0,0]) (k:=k) rfl (by simp[Ex.aF,aw]) Z (fun y U hd X=>?_) (fun he hd=>?_)))))));·
  have hy:0≤y∧y≤1000000000000000:=by have:=List.mem_of_getElem? U;simp at this;rcases this with rfl | rfl <;> omega
  refine W.skip (qs (W.seq (W.block (W.seq (W.region (pu (indexAddr aa rfl rfl rfl rfl rfl rfl (Int.natCast_nonneg _) (aV (f:=ic) U) rfl) rfl ?_))))));refine pE rfl (pE rfl (WO.nil (qs (W.seq ?_))));apply aO;(case hb=>rfl);·repeat' first | refine bt rfl rfl rfl | refine aG rfl rfl ?_ | refine aD rfl rfl rfl rfl ?_ | refine pE rfl ?_ | refine WO.nil ?_ | (apply bj;(case hj=>rfl);(case hl=>rfl))
  refine qs (an rfl (fun N=>?_) (fun N=>?_));·exfalso;simp at N;omega
  refine W.skip (bz (qs (W.region ?_)));iterate 2 refine pE rfl ?_
  refine WO.nil (W.bU [0] ⟨k+1,?_⟩ ?_ rfl ?_ ⟨rfl,rfl,rfl,rfl,trivial⟩ ?_ trivial rfl);·exact X
  ·dsimp only;omega
  ·repeat' first | exact trivial | refine⟨rfl,?_⟩ | refine⟨aP (by assumption) (by assumption),?_⟩
  repeat' first | exact trivial | refine⟨rfl,?_⟩
 refine W.exit (bb (be (ba (qs (W.seq (W.block ?_))))));iterate 2 refine W.seq ?_
 refine W.region (pE rfl (pE rfl (pE rfl (pE rfl ?_))));iterate 2 refine pE rfl ?_
 refine WO.nil (qs (an rfl (fun I=>?_) (fun I=>?_)));·exfalso;simp at I <;> omega
 refine W.region (pE rfl (pE rfl (pE rfl (pE rfl (pE rfl (pu (dn (ev aa rfl) (y:=(evs.length:Int)) (by show IntKind.i64.wrap ((0:Int)+((evs.map Ev.c).length:Nat))=_;rw[List.length_map,wrap64 (by omega)];omega)) rfl ?_))))));iterate 2 refine pE rfl ?_
 refine WO.nil (qs (an rfl (fun I=>?_) (fun I=>?_)));·exfalso;simp at I <;> omega
 refine W.seq (W.region (pE rfl (pE rfl ?_)));iterate 3 refine pE rfl ?_
 refine WO.nil (qs (an rfl (fun M=>?_) (fun M=>?_)));·exfalso;simp at M;simp[M] at h4
 refine W.seq (W.region (pE rfl (pE rfl ?_)));iterate 3 refine pE rfl ?_
 refine WO.nil (qs (an rfl (fun O=>?_) (fun O=>?_)));·exfalso;simp at O;omega
 refine W.skip (bz (qs (W.seq (W.region (pE rfl (pE rfl (pu (ay rfl rfl rfl (wu ..) rfl) rfl ?_)))))));refine pE rfl (WO.nil (qs (W.ret (QF.aB trivial rfl ?_))));rfl
end Go.Proofs.YtpiaiiopakafhaaGreatDoor
namespace Go.Proofs.YtpiaiiopakafhaaGreatDoor
open Go.Ab Go.Tb
set_option maxRecDepth 10000
set_option maxHeartbeats 1000000
attribute [local irreducible] W WO Pu QS QB QL QF QV bu CH QE
theorem C8 {p:aW} {e:Ev} {r:List Ev} (hp:p.evs=e::r) (h:iz p.evs none=0):0≤e.time:=by
 rw[hp] at h;simp only[iz] at h;by_cases hc:cn e=0;·
  unfold cn at hc;split at hc;·cases hc
  omega
 rw[if_pos hc] at h;exact absurd h hc
theorem yO (I:Int) (e:Ev) (r:List Ev) (h0:0≤e.time):bp Tryz.prog 112 [.ptr 0 0,.ag (aW.c ⟨I,0,0,e::r⟩)] [z2.map A.d] 0 (.d (.v (.bool true))) [z2.map A.d] 0:=by
 refine bp.cZ aa (n:=27) (rs:=[.tmp 4]) Tryz.func112 (by kernel_rfl) rfl Tryz.ntmps112 Tryz.results112 rfl rfl fun C hC J=>?_;refine W.seq (W.region (cw rfl rfl rfl (pE rfl (WO.nil (qs (W.seq ?_))))));apply mL aa;(case hb=>rfl);(case hB=>kernel_rfl);·
  refine aK (ev aa rfl) rfl ?_;refine aK (ev aa rfl) rfl ?_;refine aK (ev aa rfl) rfl ?_;refine aK (ev aa rfl) rfl ?_;iterate 4 refine aK (ev aa rfl) rfl ?_
  refine aK (ev aa rfl) rfl ?_;iterate 2 refine aK (ev aa rfl) rfl ?_
  apply AH;(case hj=>rfl);(case hl=>rfl);·
   refine cL rfl rfl (ev aa rfl) rfl ?_;refine cL rfl rfl (ev aa rfl) rfl ?_;refine cL rfl rfl (indexAddr (l:=e.c) aa rfl rfl rfl rfl rfl rfl (by decide) rfl rfl) rfl ?_;refine cL rfl rfl (ev aa rfl) rfl ?_;refine cL rfl rfl (ev aa rfl) rfl ?_;refine cL rfl rfl (ev aa rfl) rfl ?_;refine cL rfl rfl (ev aa rfl) rfl ?_;refine cL rfl rfl (ev aa rfl) rfl ?_;refine cL rfl rfl (ev aa rfl) rfl ?_;refine cL rfl rfl (ev aa rfl) rfl ?_;iterate 2 refine aK (ev aa rfl) rfl ?_
   refine CH.nil ?_;refine bt rfl rfl rfl
  iterate 10 refine qR rfl rfl rfl rfl ?_
  iterate 2 refine aK (ev aa rfl) rfl ?_
  refine CH.nil ?_;refine bt rfl rfl rfl
 refine qs (W.ret (b4.end aa [] trivial rfl rfl rfl rfl ?_ ?_));·exact⟨rfl,trivial⟩
 simp only[norm,aT];simp[h0];rfl
theorem yI (I:Int) (e:Ev) (r:List Ev) (z:Ev) (J:(e::r)[r.length]? = some z) (hl:r.length≤1000):bp Tryz.prog 113 [.ptr 0 0,.ag (aW.c ⟨I,0,0,e::r⟩)] [z2.map A.d] 0 (.tup []) [[.d (ci ((r.length:Int)+1)),.d (ci z.time)]] 0:=by
 refine bp.cZ aa (n:=25) (rs:=[]) Tryz.func113 (by kernel_rfl) rfl Tryz.ntmps113 Tryz.results113 rfl rfl fun C hC M=>?_;refine W.seq (W.region (cw rfl rfl rfl (WO.nil (qs (W.seq (W.region ?_))))));iterate 2 refine pE rfl ?_
 refine pE rfl (pE rfl (pE rfl (pE rfl (pu (dn (ev aa rfl) (y:=(r.length:Int)+1) (by show IntKind.i64.wrap ((0:Int)+(((e::r).map Ev.c).length:Nat))=_;rw[List.length_map,List.length_cons,wrap64 (by omega)];omega)) rfl ?_))));iterate 2 refine pE rfl ?_
 refine ax aa rfl rfl rfl rfl rfl rfl rfl rfl (WO.nil (qs (W.region ?_)));iterate 2 refine pE rfl ?_
 refine pE rfl (pE rfl (pE rfl (pE rfl (pu (dn (ev aa rfl) (y:=(r.length:Int)) (by show IntKind.i64.wrap ((((e::r).map Ev.c).length:Nat) - (1:Int))=_;rw[List.length_map,List.length_cons,wrap64 (by omega)];omega)) rfl ?_))));refine pu (indexAddr (l:=z.c) aa rfl rfl rfl rfl rfl rfl (Int.natCast_nonneg _) (aV J) rfl) rfl ?_;refine pE rfl (pE rfl ?_);iterate 2 refine pE rfl ?_
 refine ax aa rfl rfl rfl rfl rfl rfl rfl rfl (WO.nil (b4.end aa [] trivial rfl rfl rfl rfl ?_ ?_));·exact⟨rfl,trivial⟩
 rfl
theorem uA (l:List aW) (k:Nat):((l.take k).map fun p=>p.evs.length).sum≤(l.map fun p=>p.evs.length).sum:=by have h:=congrArg (fun x=>(x.map fun p:aW=>p.evs.length).sum) (List.take_append_drop k l);simp only[List.map_append,List.sum_append] at h;omega
end Go.Proofs.YtpiaiiopakafhaaGreatDoor
namespace Go.Proofs.YtpiaiiopakafhaaGreatDoor
open Go.Ab Go.Tb
set_option maxRecDepth 10000
set_option maxHeartbeats 1000000
attribute [local irreducible] W WO Pu QS QB QL QF QV bu CH QE
theorem xJ (t:bJ):az Tryz.prog 107 [.ag t.c] (.d (.v (.int .i64 (lH t)))) 0:=by
 refine az.bl (n:=24) (ts:=[2]) Tryz.func107 (by kernel_rfl) rfl Tryz.ntmps107 Tryz.results107 rfl rfl fun C hC M=>?_;refine W.seq (W.region (cw rfl rfl rfl (pE rfl (WO.nil (qs ?_)))));iterate 2 refine W.seq ?_
 apply aO;(case hb=>rfl);·repeat' first | refine bt rfl rfl rfl | refine aG rfl rfl ?_ | refine aD rfl rfl rfl rfl ?_ | refine pE rfl ?_ | refine WO.nil ?_ | (apply bj;(case hj=>rfl);(case hl=>rfl))
 refine qs (an rfl (fun I=>?_) (fun I=>?_));·
  have J:lH t=2:=by unfold lH;rw[if_pos (by simp at I;omega)]
  refine W.seq (W.region (pE rfl (WO.nil (qs (W.ret (aA (QF.aB trivial rfl ?_)))))));simp only[norm,aT,J]
 have J:lH t=cd t.name:=by unfold lH;rw[if_neg (by simp at I;omega)]
 refine W.skip (qs (W.seq (W.region (pE rfl (pE rfl (pu (ay rfl rfl rfl (pb ..) rfl) rfl ?_))))));refine pE rfl (WO.nil (qs (W.ret (QF.aB trivial rfl ?_))));simp only[norm,aT,J]
theorem BX (ts:List bJ):az Tryz.prog 67 [.ag (mj ts)] (.d (.v (.int .i64 (fb ts)))) 0:=by
 refine az.bl (n:=62) (ts:=[2]) Tryz.func67 (by kernel_rfl) rfl Tryz.ntmps67 Tryz.results67 rfl rfl fun C hC hG=>?_;refine W.seq (W.region (cw rfl rfl rfl (pE rfl (WO.nil (qs (W.seq (W.block (W.seq (W.region (pE rfl (pE rfl ?_)))))))))));iterate 3 refine pE rfl ?_
 refine WO.nil (qs (an rfl (fun M=>?_) (fun M=>?_)));·
  have I:fb ts=8:=by simp at M;unfold fb;rw[if_pos M]
  refine W.seq (W.region (pE rfl (WO.nil (qs (W.ret (aJ (aA (QF.aB trivial rfl ?_))))))));simp only[norm,aT,I]
 have aj:ts≠[]:=by simpa using M
 refine W.seq (W.region (pE rfl (pE rfl ?_)));iterate 3 refine pE rfl ?_
 refine WO.nil (qs (an rfl (fun N=>?_) (fun N=>?_)));·
  have I:fb ts=7:=by simp at N;unfold fb;rw[if_neg aj,if_pos (by omega)]
  refine W.seq (W.region (pE rfl (WO.nil (qs (W.ret (aJ (aA (QF.aB trivial rfl ?_))))))));simp only[norm,aT,I]
 have hT:fb ts=mW ts []:=by simp at N;unfold fb;rw[if_neg aj,if_neg (by omega)]
 have hlen:ts.length≤maxLen:=by simp at N;simp only[maxLen];omega
 refine W.skip (bz (qs (W.seq (W.region (mkMap rfl ?_)))));refine pE rfl (WO.nil (qs ?_));iterate 2 refine W.seq ?_
 refine W.region (pE rfl (pE rfl ?_));iterate 2 refine pE rfl ?_
 refine WO.nil (qs (W.block ?_))
 refine W.bF (ι:={x:Nat // match x with | k=>k≤ts.length∧((ts.take k).map bJ.id).Nodup∧mW (ts.drop k) ((ts.take k).map bJ.id)=fb ts})
  (fun x=>match x.1 with | k=>[(1,.ptr 0 0),(3,.mp 1 (ee ik zp (iq (ts.take k) bJ.id))),(24,.d (.v (.int .i64 ((k:Nat):Int))))]) [(22,_),(23,_)]
  (fun x=>match x.1 with | k=>[(0,(mj ts).map A.d)]) [] [1] 2 (fun x=>match x.1 with | k=>ts.length - k)
  [0,1] ⟨0,?_⟩ rfl ?_ ⟨rfl,rfl,rfl,rfl,trivial⟩ ?_ trivial rfl ?_
 ·exact⟨Nat.zero_le _,List.nodup_nil,hT.symm⟩
 ·repeat' first | exact trivial | refine⟨rfl,?_⟩
 ·repeat' first | exact trivial | refine⟨rfl,?_⟩
 rintro⟨k,hk,O,J⟩;show W _ _ _ _ _ ⟨[(1,.ptr 0 0),(3,.mp 1 (ee ik zp (iq (ts.take k) bJ.id))),(24,.d (.v (.int .i64 ((k:Nat):Int)))),(22,_),(23,_)],[(0,(mj ts).map A.d)],[1],2⟩;refine W.seq (W.region (pE rfl (WO.nil (qs (W.seq (ca (l:=ts) (k:=k) rfl (by simp[Ex.aF,aw]) hk (fun t U hd X=>?_) (fun he hd=>?_)))))));·
  rw[hd,mW] at J;have a8:=sW (f:=bJ.id) (ts.take k) t.id;refine W.skip (qs (W.seq (W.block (W.seq (W.region (pu (indexAddr aa rfl rfl rfl rfl rfl rfl (Int.natCast_nonneg _) (aV U) rfl) rfl ?_))))));refine pE rfl (aL aa rfl rfl rfl (ax aa rfl rfl rfl rfl rfl rfl rfl rfl (WO.nil (qs ?_))));iterate 2 refine W.seq ?_
  refine W.region (pE rfl (pu (ay rfl rfl rfl (xJ t) rfl) rfl ?_));refine pE rfl (WO.nil (qs (W.seq (W.region ?_))));iterate 2 refine pE rfl ?_
  refine WO.nil (qs (an rfl (fun Z=>?_) (fun Z=>?_)));·
   have I:fb ts=lH t:=by rw[←J,if_pos (by simpa using Z)]
   refine W.seq (W.region ?_);iterate 2 refine pE rfl ?_
   refine WO.nil (qs (W.ret (aA (aJ (aA (dV (aJ (aA (QF.aB trivial rfl ?_)))))))));simp only[norm,aT,I]
  rw[if_neg (by simpa using Z)] at J;refine W.skip (qs ?_);iterate 2 refine W.seq ?_
  refine W.region ?_;iterate 2 refine pE rfl ?_
  refine pE rfl (pu (kF (kf:=ik) (vf:=zp) (l:=iq (ts.take k) bJ.id) (a:=t.id) (z:=false) (r:=zp (((ts.take k).map bJ.id).any fun x=>decide (x=t.id))) aa rfl rfl rfl rfl rfl (fN (aa.fa rfl rfl)) rfl rfl rfl (fun _ _=>.v _ rfl) (by rw[mA];exact O) (by rw[a8])) rfl ?_);refine WO.nil (qs (an rfl (fun ad=>?_) (fun ad=>?_)));·
   have I:fb ts=4:=by rw[←J,if_pos ad]
   refine W.seq (W.region (pE rfl (WO.nil (qs (W.ret (aA (aJ (aA (dV (aJ (aA (QF.aB trivial rfl ?_))))))))))));simp only[norm,aT,I]
  have ai:¬ (((ts.take k).map bJ.id).any fun x=>decide (x=t.id))=true:=by rw[show(((ts.take k).map bJ.id).any fun x=>decide (x=t.id))=false from ad];simp
  rw[if_neg ai] at J;have a1:(ts.take (k+1)).map bJ.id=(ts.take k).map bJ.id++[t.id]:=by rw[List.take_add_one,U,List.map_append];rfl
  have b0:t.id∉(ts.take k).map bJ.id:=by intro q;exact ai (List.any_eq_true.2 ⟨_,q,by simp⟩)
  refine W.skip (qs (W.region ?_));iterate 2 refine pE rfl ?_
  refine pE rfl ?_;first | refine rl (kf:=ik) (vf:=zp) (l:=iq (ts.take k) bJ.id) (a:=t.id) (y:=true) aa 3 rfl rfl rfl rfl rfl rfl rfl (fN (aa.fa rfl rfl)) rfl rfl (by rw[mA];exact O) (by rw[B0 ai U]) rfl ?_
  refine WO.nil (bz (qs (W.region ?_)));iterate 2 refine pE rfl ?_
  refine WO.nil (W.bU [0,3] ⟨k+1,?_⟩ ?_ rfl ?_ ⟨rfl,rfl,rfl,rfl,trivial⟩ ?_ trivial rfl);·exact⟨X,by rw[a1,List.nodup_append];exact⟨O,by simp,fun a ha b hb=>by simp at hb;subst hb;rintro rfl;exact b0 ha⟩,by rw[a1];exact J⟩
  ·dsimp only;omega
  ·repeat' first | exact trivial | refine⟨rfl,?_⟩ | refine⟨aP (by assumption) (by assumption),?_⟩
  repeat' first | exact trivial | refine⟨rfl,?_⟩
 have I:fb ts=0:=by rw[←J,hd];rfl
 refine W.exit (bb (be (ba (qs ?_))));iterate 2 refine W.seq ?_
 refine W.region (pE rfl (pE rfl (pE rfl (pE rfl (pu (ay rfl rfl rfl BB rfl) rfl ?_)))));refine pE rfl (WO.nil (qs (W.seq (W.region ?_))));iterate 2 refine pE rfl ?_
 refine WO.nil (qs (an rfl (fun a6=>?_) (fun a6=>?_)));·exfalso;simp at a6
 refine W.skip (qs ?_);iterate 2 refine W.seq ?_
 refine W.region (pE rfl (pE rfl ?_));iterate 2 refine pE rfl ?_
 refine WO.nil (qs (W.block ?_))
 refine W.bF (ι:={x:Nat // match x with | k=>k≤ts.length})
  (fun x=>match x.1 with | k=>[(1,.ptr 0 0),(52,.d (.v (.int .i64 ((k:Nat):Int))))]) [(50,_),(51,_)]
  (fun x=>match x.1 with | k=>[(0,(mj ts).map A.d)]) [] [] 1 (fun x=>match x.1 with | k=>ts.length - k)
  [0] ⟨0,?_⟩ rfl ?_ ⟨rfl,rfl,rfl,rfl,trivial⟩ ?_ trivial rfl ?_
 ·exact Nat.zero_le _
 ·repeat' first | exact trivial | refine⟨rfl,?_⟩
 ·repeat' first | exact trivial | refine⟨rfl,?_⟩
 rintro⟨k,hk⟩;show W _ _ _ _ _ ⟨[(1,.ptr 0 0),(52,.d (.v (.int .i64 ((k:Nat):Int)))),(50,_),(51,_)],[(0,(mj ts).map A.d)],[],1⟩;refine W.seq (W.region (pE rfl (WO.nil (qs (W.seq (ca (l:=ts) (k:=k) rfl (by simp[Ex.aF,aw]) hk (fun t U hd X=>?_) (fun he hd=>?_)))))));·
  refine W.skip (qs (W.seq (W.block (W.seq (W.region (pu (indexAddr aa rfl rfl rfl rfl rfl rfl (Int.natCast_nonneg _) (aV U) rfl) rfl ?_))))));refine pE rfl (aL aa rfl rfl rfl (ax aa rfl rfl rfl rfl rfl rfl rfl rfl (WO.nil (qs (W.seq (W.region (pE rfl (pE rfl (pE rfl (pu (ay rfl rfl rfl (Cz t) rfl) rfl ?_))))))))));refine pE rfl (WO.nil (qs (an rfl (fun a7=>?_) (fun a7=>?_))));·exfalso;simp at a7
  refine W.skip (bz (qs (W.region ?_)));iterate 2 refine pE rfl ?_
  refine WO.nil (W.bU [0] ⟨k+1,?_⟩ ?_ rfl ?_ ⟨rfl,rfl,rfl,rfl,trivial⟩ ?_ trivial rfl);·exact X
  ·dsimp only;omega
  ·repeat' first | exact trivial | refine⟨rfl,?_⟩ | refine⟨aP (by assumption) (by assumption),?_⟩
  repeat' first | exact trivial | refine⟨rfl,?_⟩
 refine W.exit (bb (be (ba (qs (W.seq (W.region (pE rfl (WO.nil (qs (W.ret (QF.aB trivial rfl ?_)))))))))));simp only[norm,aT,I]
end Go.Proofs.YtpiaiiopakafhaaGreatDoor
namespace Go.Proofs.YtpiaiiopakafhaaGreatDoor
open Go.Ab Go.Tb
set_option maxRecDepth 10000
set_option maxHeartbeats 1000000
attribute [local irreducible] W WO Pu QS QB QL QF QV bu CH QE
theorem zM (ts:List bJ) (ps:List aW) (ok:FE ts) (N:rG ts ps):az Tryz.prog 68 [.ag (mj ts),.d (.sl (ps.map aW.c))] (.d (.v (.int .i64 (eH ps)))) 0:=by
 obtain⟨ids,I⟩:∃ ids,ids=ts.map bJ.id:=⟨_,rfl⟩;have M:ids.Nodup:=I▸ok.2;have ai:(ps.map aW.thread).Sublist ids:=I▸N.1;have cl:(ps.map aW.thread).Nodup:=M.sublist ai;refine az.bl (n:=63) (ts:=[4]) Tryz.func68 (by kernel_rfl) rfl Tryz.ntmps68 Tryz.results68 rfl rfl fun C hC hG=>?_;refine W.seq (W.region (cw rfl rfl rfl (pE rfl (WO.nil (qs (W.seq (W.region (DH rfl ?_))))))));refine pE rfl (WO.nil (qs ?_));iterate 2 refine W.seq ?_
 refine W.region (pE rfl (pE rfl ?_));iterate 2 refine pE rfl ?_
 refine WO.nil (qs (W.block (W.len (t:=16) rfl rfl (fun hlen=>?_))));try simp only[List.length_map,Ex.aF] at hlen
 refine W.bF (ι:={x:Nat // match x with | k=>k≤ts.length})
  (fun x=>match x.1 with | k=>[(1,.d (.sl (ps.map aW.c))),(5,.mq 1 (gW ik (oy ids k))),(18,.d (.v (.int .i64 ((k:Nat):Int))))]) [(16,_),(17,_)]
  (fun x=>match x.1 with | k=>[(0,(mj ts).map A.d)]) [] [1] 2 (fun x=>match x.1 with | k=>ts.length - k)
  [0,1] ⟨0,?_⟩ rfl ?_ ⟨rfl,rfl,rfl,rfl,trivial⟩ ?_ trivial rfl ?_
 ·exact Nat.zero_le _
 ·repeat' first | exact trivial | refine⟨rfl,?_⟩
 ·repeat' first | exact trivial | refine⟨rfl,?_⟩
 rintro⟨k,hk⟩;show W _ _ _ _ _ ⟨[(1,.d (.sl (ps.map aW.c))),(5,.mq 1 (gW ik (oy ids k))),(18,.d (.v (.int .i64 ((k:Nat):Int)))),(16,_),(17,_)],[(0,(mj ts).map A.d)],[1],2⟩;refine W.seq (W.region (pE rfl (WO.nil (qs (W.seq (ca (l:=ts) (k:=k) rfl (by simp[Ex.aF,aw]) hk (fun t J hd U=>?_) (fun he hd=>?_)))))));·
  have aj:ids[k]? = some t.id:=by rw[I];simp[J]
  refine W.skip (qs (W.seq (W.block (W.seq (W.region (pu (indexAddr aa rfl rfl rfl rfl rfl rfl (Int.natCast_nonneg _) (aV J) rfl) rfl ?_))))));refine pE rfl (aL aa rfl rfl rfl (ax aa rfl rfl rfl rfl rfl rfl rfl rfl (WO.nil (qs (W.region ?_)))));iterate 2 refine pE rfl ?_
  refine pE rfl (pu (build aa rfl rfl rfl rfl) rfl ?_);refine cw rfl rfl rfl ?_;first | refine C5 (kf:=ik) (l:=oy ids k) (a:=t.id) (y:=z2) aa 5 rfl rfl rfl rfl rfl rfl rfl rfl (fN (aa.fa rfl rfl)) rfl rfl (by rw[wa];exact M.sublist (List.take_sublist _ _)) (by rw[wa];exact nF M aj) rfl rfl (by rw[A3 aj]) rfl ?_
  refine WO.nil (bz (qs (W.region ?_)));iterate 2 refine pE rfl ?_
  refine WO.nil (W.bU [0,5] ⟨k+1,?_⟩ ?_ rfl ?_ ⟨rfl,rfl,rfl,rfl,trivial⟩ ?_ trivial rfl);·exact U
  ·dsimp only;omega
  ·repeat' first | exact trivial | refine⟨rfl,?_⟩ | refine⟨aP (by assumption) (by assumption),?_⟩
  repeat' first | exact trivial | refine⟨rfl,?_⟩
 have hq:oy ids k=l7 ids []:=by rw[Dn];exact Cs (by rw[I,List.length_map];exact he)
 rw[hq];refine W.exit (bb (be (ba (qs (W.seq (W.region (pE rfl (WO.nil (qs ?_)))))))));iterate 2 refine W.seq ?_
 refine W.region ?_;iterate 3 refine pE rfl ?_
 refine WO.nil (qs (W.block (W.len (t:=28) rfl rfl (fun hlen=>?_))));try simp only[List.length_map,Ex.aF] at hlen
 refine W.bF (ι:={x:Nat×Nat // match x with | (k,c)=>k≤ps.length∧eH (ps.drop k)=eH ps∧c=((ps.take k).map fun p=>p.evs.length).sum})
  (fun x=>match x.1 with | (k,c)=>[(5,.mq 1 (gW ik (l7 ids ((ps.take k).map aW.thread)))),(8,.d (.v (.int .i64 ((c:Nat):Int)))),(30,.d (.v (.int .i64 ((k:Nat):Int))))]) [(28,_),(29,_)]
  (fun x=>match x.1 with | (k,c)=>[(0,(mj ts).map A.d)]) [] [1] 2 (fun x=>match x.1 with | (k,c)=>ps.length - k)
  [0,1] ⟨(0,0),?_⟩ rfl ?_ ⟨rfl,rfl,rfl,rfl,trivial⟩ ?_ trivial rfl ?_
 ·exact⟨Nat.zero_le _,rfl,rfl⟩
 ·repeat' first | exact trivial | refine⟨rfl,?_⟩
 ·repeat' first | exact trivial | refine⟨rfl,?_⟩
 rintro⟨⟨k,c⟩,hk,hI,hc⟩;show W _ _ _ _ _ ⟨[(5,.mq 1 (gW ik (l7 ids ((ps.take k).map aW.thread)))),(8,.d (.v (.int .i64 ((c:Nat):Int)))),(30,.d (.v (.int .i64 ((k:Nat):Int)))),(28,_),(29,_)],[(0,(mj ts).map A.d)],[1],2⟩;refine W.seq (W.region (pE rfl (WO.nil (qs (W.seq (ca (l:=ps) (k:=k) rfl (by simp[Ex.aF,aw]) hk (fun p J hd U=>?_) (fun he hd=>?_)))))));·
  obtain⟨a1,a6,X,Z⟩:=N.2.1 p (List.mem_of_getElem? J);obtain⟨ix,O⟩:∃ ix:Nat,ids[ix]? = some p.thread:=List.mem_iff_getElem?.1 (ai.subset (List.mem_map.2 ⟨p,List.mem_of_getElem? J,rfl⟩));have a7:p.thread∉(ps.take k).map aW.thread:=mZ cl J;have a8:(ps.take (k+1)).map aW.thread=(ps.take k).map aW.thread++[p.thread]:=by rw[List.take_add_one,J,List.map_append];rfl
  have b0:0≤p.thread∧p.thread≤1000000000000000:=by have:=List.mem_of_getElem? O;rw[I] at this;obtain⟨t,ht,e⟩:=List.mem_map.1 this;have:=ok.1 t ht;omega
  obtain⟨th,se,lo,evs⟩:=p;simp only at a1 a6 X Z b0 O a7 a8;subst a1;subst a6;obtain⟨e,r,cq⟩:∃ e r,evs=e::r:=by
   cases evs with
   | nil=>simp at X
   | cons e r=>exact⟨e,r,rfl⟩
  subst cq;have cx:c≤20000:=hc▸Nat.le_trans (uA ps k) N.2.2;have cy:r.length≤1000:=by simp at Z;omega
  obtain⟨z,hz⟩:∃ z,(e::r)[r.length]? = some z:=⟨(e::r)[r.length],by simp⟩;refine W.skip (qs (W.seq (W.block (W.seq (W.region (pu (indexAddr aa rfl rfl rfl rfl rfl rfl (Int.natCast_nonneg _) (aV J) rfl) rfl ?_))))));refine pE rfl (aL aa rfl rfl rfl (ax aa rfl rfl rfl rfl rfl rfl rfl rfl (WO.nil (qs ?_))));iterate 2 refine W.seq ?_
  refine W.region (pE rfl (pu (ay rfl rfl rfl (zG ⟨th,0,0,e::r⟩ b0 rfl rfl ⟨X,Z⟩) rfl) rfl ?_));refine pE rfl (WO.nil (qs (W.seq (W.region ?_))));iterate 2 refine pE rfl ?_
  refine WO.nil (qs (an rfl (fun ad=>?_) (fun ad=>?_)));·
   have hg:eH ps=iz (e::r) none:=by rw[←hI,hd,eH];exact if_pos (by simpa using ad)
   refine W.seq (W.region ?_);iterate 2 refine pE rfl ?_
   refine WO.nil (qs (W.ret (aA (aJ (aA (dV (aJ (aA (QF.aB trivial rfl ?_)))))))));rw[hg];rfl
  have b2:iz (e::r) none=0:=by simpa using ad
  have c1:0≤e.time:=C8 (p:=⟨th,0,0,e::r⟩) rfl b2;refine W.skip (qs (W.seq (W.region ?_)));iterate 2 refine pE rfl ?_
  refine pE rfl (AS (kf:=ik) (l:=l7 ids ((ps.take k).map aW.thread)) (a:=th) (y:=z2) aa 5 ix rfl rfl rfl rfl rfl rfl rfl rfl (fN (aa.fa rfl rfl)) rfl rfl rfl rfl rfl (by rw[BW];exact M) (C0 O a7) (by rw[Dk M O,←a8]) rfl ?_);iterate 5 refine pE rfl ?_
  refine WO.nil (qs ?_);iterate 2 refine W.seq ?_
  refine W.region ?_;iterate 2 refine pE rfl ?_
  refine WO.nil (qs (an rfl (fun b3=>?_) (fun b3=>?_)));·exfalso;simp at b3
  refine W.skip (qs ?_);iterate 2 refine W.seq ?_
  refine W.region (pE rfl (pE rfl (aE [5] [] rfl rfl rfl rfl rfl ((yO th e r c1)) rfl rfl (by rfl) (by rfl) rfl rfl rfl rfl ?_)));refine pE rfl (WO.nil (qs (an rfl (fun ch=>?_) (fun ch=>?_))));·exfalso;simp at ch
  refine W.skip (qs (W.seq (W.region (pE rfl (pE rfl (aE [5] [] rfl rfl rfl rfl rfl ((yI th e r z hz cy)) rfl rfl (by rfl) (by rfl) rfl rfl rfl rfl ?_))))));refine WO.nil (qs (W.region ?_));iterate 2 refine pE rfl ?_
  refine pE rfl (pE rfl (pu (dn (ev aa rfl) (y:=((c+(r.length+1):Nat):Int)) (by show IntKind.i64.wrap ((c:Int)+(((e::r).map Ev.c).length:Nat))=_;rw[List.length_map,List.length_cons,wrap64 (by omega)];omega)) rfl ?_));refine pE rfl (WO.nil (bz (qs (W.region ?_))));iterate 2 refine pE rfl ?_
  refine WO.nil (W.bU [0,3] ⟨(k+1,c+(r.length+1)),?_⟩ ?_ rfl ?_ ⟨rfl,rfl,rfl,rfl,trivial⟩ ?_ trivial rfl);·exact⟨U,by rw[←hI,hd,eH,if_neg (by simpa using b2)],by rw[hc,List.take_add_one,J];simp⟩
  ·dsimp only;omega
  ·repeat' first | exact trivial | refine⟨rfl,?_⟩ | refine⟨aP (by assumption) (by assumption),?_⟩
  repeat' first | exact trivial | refine⟨rfl,?_⟩
 have hg:eH ps=0:=by rw[←hI,hd];rfl
 have cx:c≤20000:=hc▸Nat.le_trans (uA ps k) N.2.2;refine W.exit (bb (be (ba (qs ?_))));iterate 2 refine W.seq ?_
 refine W.region ?_;iterate 2 refine pE rfl ?_
 refine WO.nil (qs (an rfl (fun cj=>?_) (fun cj=>?_)));·exfalso;simp at cj;omega
 refine W.skip (qs (W.seq (W.region (pE rfl (WO.nil (qs (W.ret (QF.aB trivial rfl ?_))))))));rw[hg];rfl
end Go.Proofs.YtpiaiiopakafhaaGreatDoor
namespace Go.Proofs.YtpiaiiopakafhaaGreatDoor
open Go.Ab Go.Tb
set_option maxRecDepth 10000
set_option maxHeartbeats 1000000
attribute [local irreducible] W WO Pu QS QB QL QF QV bu CH QE
abbrev FJ (th:Int):List D:=[ci th,ci 0,ci 0,.v (.slice none 0 0)]
theorem Dj (J:Int) (evs:List Ev) (h0:0 < evs.length) (h1:evs.length≤1000):bp Tryz.prog 69 [.xs 0 [FJ J],.d (.sl (evs.map Ev.c))] [] 1 (.own 0 [aW.c ⟨J,0,0,evs⟩]) [] 1:=by
 refine bp.cZ aa (n:=54) (rs:=[.tmp 4]) Tryz.func69 (by kernel_rfl) rfl Tryz.ntmps69 Tryz.results69 rfl rfl fun C hC X=>?_;refine W.seq (W.region (pE rfl (WO.nil (qs (W.seq (W.block ?_))))))
 refine W.bF (ι:={x:Nat // match x with | j=>j≤1})
  (fun x=>match x.1 with | j=>[(0,.xs 0 [[ci J,ci 0,ci 0,FL evs j]]),(1,.d (.sl ((Ch evs j).map Ev.c)))]) []
  (fun x=>match x.1 with | j=>[]) [] [0] 1 (fun x=>match x.1 with | j=>1 - j)
  [0] ⟨0,?_⟩ rfl ?_ trivial ?_ trivial rfl ?_
 ·exact Nat.zero_le _
 ·repeat' first | exact trivial | refine⟨rfl,?_⟩
 ·repeat' exact trivial
 rintro⟨j,hj⟩;show W _ _ _ _ _ ⟨[(0,.xs 0 [[ci J,ci 0,ci 0,FL evs j]]),(1,.d (.sl ((Ch evs j).map Ev.c)))],[],[0],1⟩;iterate 2 refine W.seq ?_
 refine W.region ?_;iterate 3 refine pE rfl ?_
 refine WO.nil (qs (an rfl (fun I=>?_) (fun I=>?_)));·
  have N:j=0:=by
   match j,hj with
   | 0,_=>rfl
   | 1,_=>exfalso;simp[Ch] at I
  subst N;refine W.skip (qs (W.block (W.seq (W.region ?_))));iterate 2 refine pE rfl ?_
  refine pu (BY aa rfl rfl rfl rfl) rfl ?_;refine pu (dn (ev aa rfl) (y:=0) (by rfl)) rfl ?_;refine pu (vH (l:=FJ J) aa rfl rfl rfl rfl rfl rfl (by decide) rfl rfl) rfl ?_;refine pE rfl (WO.nil (qs (W.seq (W.region (pE rfl (pu (yN rfl rfl) rfl ?_))))));refine pu (ml aa rfl rfl rfl rfl rfl rfl) rfl ?_;refine pu (tZ aa rfl rfl rfl) rfl ?_;refine pE rfl (pu (dn (ev aa rfl) (y:=1000) (by rfl)) rfl ?_);iterate 2 refine pE rfl ?_
  refine pu (dn (ev aa rfl) (y:=(evs.length:Int)) (by show(if (((evs.map Ev.c).length:Nat):Int) < 1000 then (((evs.map Ev.c).length:Nat):Int) else 1000)=_;rw[List.length_map];split <;> omega)) rfl ?_;refine pE rfl (WO.nil (qs ?_));iterate 2 refine W.seq ?_
  refine W.region ?_;iterate 2 refine pE rfl ?_
  refine WO.nil (qs (an rfl (fun M=>?_) (fun M=>?_)));·exfalso;have:=of_decide_eq_true M;omega
  refine W.skip (qs (W.seq ?_));apply W.so aa 9 8;(case hB=>kernel_rfl);(case h1=>rfl);(case h2=>rfl);refine' jl ?p1_1 (ev aa rfl) rfl rfl rfl rfl rfl ?h_1;case' h_1=>skip
  refine' jl ?p1_2 (ev aa rfl) rfl rfl rfl rfl rfl ?h_2;case' h_2=>skip
  refine' jl ?p1_3 (yN rfl rfl) rfl rfl rfl rfl rfl ?h_3;case' h_3=>skip
  refine' jl ?p1_4 (ml aa rfl rfl rfl rfl rfl rfl) rfl rfl rfl rfl rfl ?h_4;case' h_4=>skip
  refine' po (tZ aa rfl rfl rfl) rfl rfl rfl rfl rfl ?h_5;case' h_5=>skip
  refine' jl ?p1_6 (ev aa rfl) rfl rfl rfl rfl rfl ?h_6;case' h_6=>skip
  refine' jl ?p1_7 (ev aa rfl) rfl rfl rfl rfl rfl ?h_7;case' h_7=>skip
  refine' po (vM (fn:=Ev.c) (l:=evs) (i:=0) (j:=(evs.length:Int)) (r:=evs) aa rfl rfl rfl rfl rfl (fun _=>rfl) rfl rfl (by decide) (by omega) (by omega) (by rw[show((evs.length:Int)).toNat=evs.length from rfl,List.take_length];rfl)) rfl rfl rfl rfl rfl ?h_8;case' h_8=>skip
  refine' DM (fun g=>?e_9) rfl rfl rfl ?h_9;case e_9=>refine xK (es2:=evs.map Ev.c) aa rfl rfl rfl rfl rfl rfl rfl rfl rfl (fun x U=>by obtain⟨y,_,rfl⟩:=List.mem_map.1 U;rfl) (by rw[List.length_map];show evs.length*72≤140737488355328;omega) ?_;refine WO.nil ?_;exact⟨rfl,rfl⟩
  case' h_9=>skip
  case p1_1=>exact(ev aa rfl)
  case p1_2=>exact(ev aa rfl)
  case p1_3=>exact(yN rfl rfl)
  case p1_4=>exact(ml aa rfl rfl rfl rfl rfl rfl)
  case p1_6=>exact(ev aa rfl)
  case p1_7=>exact(ev aa rfl)
  refine CC.nil ?_;refine pu (yN rfl rfl) rfl ?_;refine pu (ml aa rfl rfl rfl rfl rfl rfl) rfl ?_;refine uk aa 0 rfl rfl rfl rfl rfl rfl rfl rfl rfl rfl rfl rfl rfl ?_;refine WO.nil (qs (W.region ?_));iterate 2 refine pE rfl ?_
  refine pu (vM (fn:=Ev.c) (l:=evs) (i:=(evs.length:Int)) (j:=(evs.length:Int)) (r:=[]) aa rfl rfl rfl rfl rfl (fun _=>rfl) rfl rfl (by omega) (by omega) (by omega) (by show(evs.take evs.length).drop evs.length=[];rw[List.take_length,List.drop_length])) rfl ?_;refine pE rfl (WO.nil (bz (W.bU [2] ⟨1,?_⟩ ?_ rfl ?_ trivial ?_ trivial rfl)));·decide
  ·dsimp only;omega
  ·repeat' first | exact trivial | refine⟨rfl,?_⟩
  repeat' exact trivial
 have O:j=1:=by
  match j,hj with
  | 0,_=>exfalso;have I:=of_decide_eq_false I;rw[List.length_map] at I;simp only[Ch] at I;omega
  | 1,_=>rfl
 subst O;refine W.exit (bb (be (ba (qs (W.seq (W.region ?_))))));iterate 2 refine pE rfl ?_
 refine WO.nil (qs (Dt 4 rfl rfl rfl rfl ?_));refine W.ret (b4.end aa [1] trivial rfl rfl rfl rfl ?_ ?_);·trivial
 rfl
end Go.Proofs.YtpiaiiopakafhaaGreatDoor
namespace Go.Proofs.YtpiaiiopakafhaaGreatDoor
open Go.Ab Go.Tb
set_option maxRecDepth 10000
set_option maxHeartbeats 1000000
attribute [local irreducible] W WO Pu QS QB QL QF QV bu CH QE
abbrev vF:D→D:=fun d=>d
def gY (l:List aW):List (Int×D):=l.map fun p=>(p.thread,.sl [p.c])
theorem jL (l:List aW):(gY l).map (·.1)=l.map aW.thread:=by unfold gY;rw[List.map_map];rfl
theorem zZ {l:List aW} {k:Nat} {p:aW} (I:(l.map aW.thread).Nodup) (h:l[k]? = some p):cr (gY (l.take k)) p.thread (.sl [p.c])=gY (l.take (k+1)):=by
 rw[iu];·
  unfold gY;rw[List.take_add_one,h,List.map_append];rfl
 intro q J e;have:=mZ I h;rw[←jL] at this;exact this (List.mem_map.2 ⟨q,J,e⟩)
theorem zL {l:List aW} {k:Nat} {p:aW} (I:(l.map aW.thread).Nodup) (h:l[k]? = some p):(bO (gY (l.take k)) p.thread).getD (.v (.slice none 0 0))=.v (.slice none 0 0):=by rw[qq];rfl;intro q J e;have:=mZ I h;rw[←jL] at this;exact this (List.mem_map.2 ⟨q,J,e⟩)
end Go.Proofs.YtpiaiiopakafhaaGreatDoor
namespace Go.Proofs.YtpiaiiopakafhaaGreatDoor
open Go.Ab Go.Tb
set_option maxRecDepth 10000
set_option maxHeartbeats 1000000
attribute [local irreducible] W WO Pu QS QB QL QF QV bu CH QE
theorem yV (l:List aW) (a:Int):(bO (gY l) a).getD (.v (.slice none 0 0))=match l.find? fun p=>decide (p.thread=a) with | some p=>.sl ([p].map aW.c) | none=>.v (.slice none 0 0):=by
 induction l with
 | nil=>rfl
 | cons p r I=>
  show(bO ((p.thread,D.sl [p.c])::gY r) a).getD _=_;rw[eE,List.find?_cons];by_cases e:p.thread=a;·rw[if_pos e];simp[e]
  rw[if_neg e,I];simp[e]
theorem uU (ts:List bJ) (ps:List aW) (N:rG ts ps):az Tryz.prog 22 [.ag (mj ts),.d (.sl (ps.map aW.c))] (.tup [.ag (cQ ts ps).1.c,.d (ci (cQ ts ps).2)]) 0:=by
 refine az.cZ aa (n:=84) (rs:=[.cell 4 30,.tmp 5]) Tryz.func22 (by kernel_rfl) rfl Tryz.ntmps22 Tryz.results22 rfl fun C hC hG=>?_;refine W.seq (W.region (cw rfl rfl rfl (aL aa rfl rfl rfl (pE rfl (WO.nil (qs ?_))))));iterate 2 refine W.seq ?_
 refine W.region (pE rfl (pu (ay rfl rfl rfl ((BX _)) rfl) rfl ?_));refine pE rfl (WO.nil (qs (W.seq (W.region ?_))));iterate 2 refine pE rfl ?_
 refine WO.nil (qs (an rfl (fun O=>?_) (fun O=>?_)));·
  have U:cQ ts ps=(jr,fb ts):=by unfold cQ;rw[if_pos (by simpa using O)]
  refine W.seq (W.region (pu (build aa rfl rfl rfl rfl) rfl ?_));refine gG 19 rfl rfl rfl ?_;refine pE rfl (ax aa rfl rfl rfl rfl rfl rfl rfl rfl (pE rfl (WO.nil (qs (W.ret (aA (QV.aB aa trivial rfl ?_)))))));rw[U];rfl
 have h0:fb ts=0:=by simpa using O
 obtain⟨ok,_,cl⟩:=qo h0;have X:(ps.map aW.thread).Nodup:=ok.2.sublist N.1;refine W.skip (qs ?_);iterate 2 refine W.seq ?_
 refine W.region (pE rfl (pE rfl (pu (ay rfl rfl rfl ((zM _ _ (by assumption) (by assumption))) rfl) rfl ?_)));refine pE rfl (WO.nil (qs (W.seq (W.region ?_))));iterate 2 refine pE rfl ?_
 refine WO.nil (qs (an rfl (fun Z=>?_) (fun Z=>?_)));·
  have U:cQ ts ps=(jr,eH ps):=by unfold cQ;rw[if_neg (by simp[h0]),if_pos (by simpa using Z)]
  refine W.seq (W.region (pu (build aa rfl rfl rfl rfl) rfl ?_));refine gG 26 rfl rfl rfl ?_;refine pE rfl (ax aa rfl rfl rfl rfl rfl rfl rfl rfl (pE rfl (WO.nil (qs (W.ret (aA (QV.aB aa trivial rfl ?_)))))));rw[U];rfl
 have U:cQ ts ps=(⟨ts,dq,ps⟩,0):=by unfold cQ;rw[if_neg (by simp[h0]),if_neg (by simpa using Z)]
 refine W.skip (qs (W.seq (W.region (mkMap rfl ?_))));refine pE rfl (WO.nil (qs ?_));iterate 2 refine W.seq ?_
 refine W.region ?_;iterate 3 refine pE rfl ?_
 refine WO.nil (qs (W.block (W.len (t:=29) rfl rfl (fun hlen=>?_))));try simp only[List.length_map,Ex.aF] at hlen
 refine W.bF (ι:={x:Nat // match x with | k=>k≤ps.length})
  (fun x=>match x.1 with | k=>[(2,.ptr 0 0),(4,.ptr 1 0),(8,.mp 2 (ee ik vF (gY (ps.take k)))),(31,.d (.v (.int .i64 ((k:Nat):Int))))]) [(29,_),(30,_)]
  (fun x=>match x.1 with | k=>[(0,(mj ts).map A.d),(1,[.d (.v (.slice none 0 0)),.d (.v (.slice none 0 0)),.d (.v (.slice none 0 0)),.d (.v (.slice none 0 0))])]) [] [2] 3 (fun x=>match x.1 with | k=>ps.length - k)
  [0,1,2] ⟨0,?_⟩ rfl ?_ ⟨rfl,rfl,rfl,rfl,trivial⟩ ?_ trivial rfl ?_
 ·exact Nat.zero_le _
 ·repeat' first | exact trivial | refine⟨rfl,?_⟩
 ·repeat' first | exact trivial | refine⟨rfl,?_⟩
 rintro⟨k,hk⟩;show W _ _ _ _ _ ⟨[(2,.ptr 0 0),(4,.ptr 1 0),(8,.mp 2 (ee ik vF (gY (ps.take k)))),(31,.d (.v (.int .i64 ((k:Nat):Int)))),(29,_),(30,_)],[(0,(mj ts).map A.d),(1,[.d (.v (.slice none 0 0)),.d (.v (.slice none 0 0)),.d (.v (.slice none 0 0)),.d (.v (.slice none 0 0))])],[2],3⟩;refine W.seq (W.region (pE rfl (WO.nil (qs (W.seq (ca (l:=ps) (k:=k) rfl (by simp[Ex.aF,aw]) hk (fun p J hd ad=>?_) (fun he hd=>?_)))))));·
  obtain⟨aj,a1,a6,a7⟩:=N.2.1 p (List.mem_of_getElem? J);have M:=zL X J;have b0:=zZ X J;obtain⟨th,se,lo,evs⟩:=p;simp only at aj a1 a6 a7;subst aj;subst a1;refine W.skip (qs (W.seq (W.block (W.seq (W.region (pu (indexAddr aa rfl rfl rfl rfl rfl rfl (Int.natCast_nonneg _) (aV J) rfl) rfl ?_))))));refine pE rfl (aL aa rfl rfl rfl (ax aa rfl rfl rfl rfl rfl rfl rfl rfl (WO.nil (qs (W.seq (W.region ?_))))));iterate 2 refine pE rfl ?_
  refine pE rfl (pu (kF (kf:=ik) (vf:=vF) (l:=gY (ps.take k)) (a:=th) (z:=.v (.slice none 0 0)) (r:=.v (.slice none 0 0)) aa rfl rfl rfl rfl rfl (fN (aa.fa rfl rfl)) rfl rfl rfl (fun _ _=>.v _ rfl) (by rw[jL];exact rL X k) (by rw[M])) rfl ?_);refine pE rfl (WO.nil (qs ?_));iterate 2 refine W.seq ?_
  apply aO;(case hb=>rfl);·
   refine pE rfl (pE rfl ?_);iterate 2 refine pE rfl ?_
   apply eY;(case hj=>rfl);(case hl=>rfl);·
    intro b2;iterate 3 refine aD rfl rfl rfl rfl ?_
    refine pE rfl (WO.nil (bt rfl rfl rfl))
   intro b2;refine aG rfl rfl (pE rfl (aG rfl rfl (pE rfl (aG rfl rfl ?_))));iterate 2 refine pE rfl ?_
   refine WO.nil (bt rfl rfl rfl)
  refine qs (an rfl (fun a8=>?_) (fun a8=>?_));·
   refine W.Fl (d:=11) rfl rfl ?_;refine W.region ?_;iterate 2 refine pE rfl ?_
   refine pE rfl (pE rfl (pE rfl (pE rfl (pE rfl (pu (build aa rfl rfl rfl rfl) rfl ?_)))));refine pu (aZ aa rfl rfl rfl rfl rfl rfl rfl rfl rfl) rfl ?_;refine BN aa rfl rfl rfl rfl rfl rfl rfl rfl rfl rfl rfl (fun x J=>by obtain rfl:=List.mem_singleton.1 J;rfl) (by show 1*48≤140737488355328;decide) rfl ?_;refine pE rfl (WO.nil (qs ?_));apply W.so aa 7 6;(case hB=>kernel_rfl);(case h1=>rfl);(case h2=>rfl);refine' jl ?p1_1 (ev aa rfl) rfl rfl rfl rfl rfl ?h_1;case' h_1=>skip
   refine' jl ?p1_2 (ev aa rfl) rfl rfl rfl rfl rfl ?h_2;case' h_2=>skip
   refine' jl ?p1_3 (ev aa rfl) rfl rfl rfl rfl rfl ?h_3;case' h_3=>skip
   refine' po (ev aa rfl) rfl rfl rfl rfl rfl ?h_4;case' h_4=>skip
   refine' jl ?p1_5 (ev aa rfl) rfl rfl rfl rfl rfl ?h_5;case' h_5=>skip
   refine' po (ev aa rfl) rfl rfl rfl rfl rfl ?h_6;case' h_6=>skip
   refine' DM (fun g=>?e_7) rfl rfl rfl ?h_7;case e_7=>refine aE [] [5] rfl rfl rfl rfl rfl ((Dj th evs a6 a7)) rfl rfl (by rfl) (by rfl) rfl rfl rfl rfl ?_;refine WO.nil ?_;exact⟨rfl,rfl⟩
   case' h_7=>skip
   case p1_1=>exact(ev aa rfl)
   case p1_2=>exact(ev aa rfl)
   case p1_3=>exact(ev aa rfl)
   case p1_5=>exact(ev aa rfl)
   refine CC.nil ?_;first | refine rl (kf:=ik) (vf:=vF) (l:=gY (ps.take k)) (a:=th) (y:=.sl [aW.c ⟨th,0,0,evs⟩]) aa 8 rfl rfl rfl rfl rfl rfl rfl (fN (aa.fa rfl rfl)) rfl rfl (by rw[jL];exact rL X k) (by rw[b0]) rfl ?_
   refine WO.nil (bz (qs (W.region ?_)));iterate 2 refine pE rfl ?_
   refine WO.nil (W.bU [0,1,7] ⟨k+1,?_⟩ ?_ rfl ?_ ⟨rfl,rfl,rfl,rfl,trivial⟩ ?_ trivial rfl);·exact ad
   ·dsimp only;omega
   ·repeat' first | exact trivial | refine⟨rfl,?_⟩ | refine⟨aP (by assumption) (by assumption),?_⟩
   repeat' first | exact trivial | refine⟨rfl,?_⟩
  exfalso;simp at a8
 have b3:ps.take k=ps:=List.take_of_length_le (by omega);rw[b3];have cq:ts.length≤maxLen:=by simp only[maxLen];omega
 refine W.exit (bb (be (ba (qs (W.seq (W.region (pE rfl (pu (build aa rfl rfl rfl rfl) rfl ?_))))))));refine aL aa rfl rfl rfl (ax aa rfl rfl rfl rfl rfl rfl rfl rfl (WO.nil (qs ?_)));iterate 2 refine W.seq ?_
 refine eg 3 3 rfl rfl rfl ?_;refine W.region (pE rfl (pE rfl ?_));iterate 2 refine pE rfl ?_
 refine WO.nil (qs (W.block ?_))
 refine W.bF (ι:={x:Nat×List aW // match x with | (k,m)=>k≤ts.length∧m=lP (ts.take k) ps})
  (fun x=>match x.1 with | (k,m)=>[(4,.ptr 0 0),(8,.mp 2 (ee ik vF (gY ps))),(12,.ptr 1 0),(70,.d (.v (.int .i64 ((k:Nat):Int))))]) [(68,_),(69,_)]
  (fun x=>match x.1 with | (k,m)=>[(0,[.d (.v (.slice none 0 0)),.d (.v (.slice none 0 0)),.d (.v (.slice none 0 0)),.d (.v (.slice none 0 0))]),(1,[.d (.sl (ts.map bJ.c)),.d (.sl (dq.map eB)),.d (.sl []),.own 3 (m.map aW.c)])]) [] [2,3] 4 (fun x=>match x.1 with | (k,m)=>ts.length - k)
  [1,3,2,4] ⟨(0,[]),?_⟩ rfl ?_ ⟨rfl,rfl,rfl,rfl,trivial⟩ ?_ trivial rfl ?_
 ·exact⟨Nat.zero_le _,rfl⟩
 ·repeat' first | exact trivial | refine⟨rfl,?_⟩
 ·repeat' first | exact trivial | refine⟨rfl,?_⟩
 rintro⟨⟨k,m⟩,hk,hM⟩;show W _ _ _ _ _ ⟨[(4,.ptr 0 0),(8,.mp 2 (ee ik vF (gY ps))),(12,.ptr 1 0),(70,.d (.v (.int .i64 ((k:Nat):Int)))),(68,_),(69,_)],[(0,[.d (.v (.slice none 0 0)),.d (.v (.slice none 0 0)),.d (.v (.slice none 0 0)),.d (.v (.slice none 0 0))]),(1,[.d (.sl (ts.map bJ.c)),.d (.sl (dq.map eB)),.d (.sl []),.own 3 (m.map aW.c)])],[2,3],4⟩;refine W.seq (W.region (pE rfl (WO.nil (qs (W.seq (ca (l:=ts) (k:=k) rfl (by simp[Ex.aF,aw]) hk (fun t J hd ad=>?_) (fun he hd=>?_)))))));·
  obtain⟨I,ai⟩:∃ I,I=(ps.find? fun p=>decide (p.thread=t.id)).toList:=⟨_,rfl⟩;have ch:m++I=lP (ts.take (k+1)) ps:=by rw[hM,ai];unfold lP;rw[List.take_add_one,J,List.flatMap_append];simp
  have cx:m.length≤64:=by rw[hM];exact BA ps (by simp;omega)
  have cy:I.length≤1:=by rw[ai];cases ps.find? _ <;> simp
  have M:(bO (gY ps) t.id).getD (.v (.slice none 0 0))=if I=[] then .v (.slice none 0 0) else .sl (I.map aW.c):=by rw[yV,ai];cases ps.find? _ <;> simp
  refine W.skip (qs (W.seq (W.block (W.seq (W.region (pu (indexAddr aa rfl rfl rfl rfl rfl rfl (Int.natCast_nonneg _) (aV J) rfl) rfl ?_))))));refine pE rfl (aL aa rfl rfl rfl (ax aa rfl rfl rfl rfl rfl rfl rfl rfl (WO.nil (qs (W.region (pE rfl (pE rfl ?_)))))));iterate 2 refine pE rfl ?_
  refine pE rfl (pu (kF (kf:=ik) (vf:=vF) (l:=gY ps) (a:=t.id) (z:=.v (.slice none 0 0)) (r:=if I=[] then .v (.slice none 0 0) else .sl (I.map aW.c)) aa rfl rfl rfl rfl rfl (fN (aa.fa rfl rfl)) rfl rfl rfl (fun _ _=>.v _ rfl) (by rw[jL];exact X) (by rw[M])) rfl ?_);refine Bb (l2:=I) (fn:=aW.c) aa rfl rfl (by by_cases q:I=[] <;> simp[q,gm]) rfl rfl rfl rfl rfl rfl rfl (fun _=>rfl) (by show(m.length+I.length)*48≤_;omega) ?_;refine pE rfl (ax aa rfl rfl rfl rfl rfl rfl rfl rfl (WO.nil (bz (qs (W.region ?_)))));iterate 2 refine pE rfl ?_
  refine WO.nil (W.bU [0,1,2,5] ⟨(k+1,m++I),?_⟩ ?_ rfl ?_ ⟨rfl,rfl,rfl,rfl,trivial⟩ ?_ trivial rfl);·exact⟨ad,ch⟩
  ·dsimp only;omega
  ·repeat' first | exact trivial | refine⟨rfl,?_⟩ | refine⟨aP (by assumption) (by assumption),?_⟩
  repeat' first | exact trivial | refine⟨rfl,?_⟩
 have cj:m=ps:=by rw[hM,List.take_of_length_le (by omega),mv N.1 ok.2]
 subst cj;refine W.exit (bb (be (ba (qs (W.seq (W.region (pE rfl (ax aa rfl rfl rfl rfl rfl rfl rfl rfl (pE rfl (WO.nil (qs (W.ret (QV.aB aa trivial rfl ?_)))))))))))));rw[U];rfl
end Go.Proofs.YtpiaiiopakafhaaGreatDoor
namespace Go.Proofs.YtpiaiiopakafhaaGreatDoor
open Go.Ab Go.Tb
set_option maxRecDepth 10000
set_option maxHeartbeats 1000000
attribute [local irreducible] W WO Pu QS QB QL QF QV bu CH QE
theorem Dy {ts:List bJ} {ps:List aW} (h:(cQ ts ps).2=0):(cQ ts ps).1=⟨ts,dq,ps⟩:=by
 unfold cQ at h ⊢;split at h;·rename_i q;exact absurd h q
 rename_i q;rw[if_neg q];split at h;·rename_i q2;exact absurd h q2
 rename_i q2;rw[if_neg q2]
theorem tR (ts:List bJ) (ps:List aW) (ok:rG ts ps):az Tryz.prog 12 [.ag (iF.c ⟨ts,dq,ps⟩)] (.d (ci (cQ ts ps).2)) 0:=by
 refine az.bl (n:=22) (ts:=[2]) Tryz.func12 (by kernel_rfl) rfl Tryz.ntmps12 Tryz.results12 rfl rfl fun C hC M=>?_;refine W.seq (W.region (cw rfl rfl rfl (pE rfl (WO.nil (qs (W.seq (W.region (pE rfl (pE rfl (pE rfl (pE rfl (pu (ay rfl rfl rfl (uU ts ps ok) rfl) rfl ?_))))))))))));iterate 3 refine pE rfl ?_
 refine aL aa rfl rfl rfl (ax aa rfl rfl rfl rfl rfl rfl rfl rfl (pE rfl (WO.nil (qs ?_))));iterate 2 refine W.seq ?_
 apply aO;(case hb=>rfl);·
  iterate 3 refine pE rfl ?_
  apply eY;(case hj=>rfl);(case hl=>rfl);·
   intro g15;refine aG rfl rfl (pE rfl (aG rfl rfl (pE rfl (aG rfl rfl (pu (ay rfl rfl rfl (qx (cQ ts ps).1 ⟨ts,dq,ps⟩) rfl) rfl ?_)))));refine aG rfl rfl ?_;iterate 2 refine pE rfl ?_
   refine WO.nil (bt rfl rfl rfl)
  intro g15;iterate 4 refine aD rfl rfl rfl rfl ?_
  refine pE rfl (WO.nil (bt rfl rfl rfl))
 refine qs (an rfl (fun I=>?_) (fun I=>?_));·
  exfalso;have J:(cQ ts ps).2=0→oL (cQ ts ps).1 ⟨ts,dq,ps⟩=true:=fun q=>by rw[Dy q];exact(mC _ _).2 rfl
  by_cases q:(cQ ts ps).2=0;·rw[J q] at I;simp at I
  simp[q] at I
 refine W.skip (qs (W.seq (W.region ?_)));iterate 2 refine pE rfl ?_
 refine WO.nil (qs (W.ret (QF.aB trivial rfl ?_)));rfl
theorem Dv (ts:List bJ) (ps:List aW) (ok:rG ts ps):az Tryz.prog 13 [.ag (iF.c ⟨ts,dq,ps⟩)] (.d (.sl [])) 0:=by
 refine az.bl (n:=34) (ts:=[2]) Tryz.func13 (by kernel_rfl) rfl Tryz.ntmps13 Tryz.results13 rfl rfl fun C hC U=>?_;refine W.seq (W.region (cw rfl rfl rfl (pE rfl (WO.nil (qs ?_)))));iterate 2 refine W.seq ?_
 refine W.region (pE rfl (pu (ay rfl rfl rfl (tR ts ps ok) rfl) rfl ?_));refine pE rfl (WO.nil (qs (an rfl (fun N=>?_) (fun N=>?_))));·
  refine W.seq (W.region (pE rfl (WO.nil (qs ?_))));try refine pd (d:=2) rfl rfl ?_
  refine W.ret (aA (QF.aB trivial rfl ?_));rfl
 refine W.skip (qs (W.seq (W.region (pE rfl (WO.nil (qs ?_))))));iterate 2 refine W.seq ?_
 refine W.region (pE rfl (pE rfl ?_));iterate 2 refine pE rfl ?_
 refine WO.nil (qs (W.block (W.len (t:=10) rfl rfl (fun hlen=>?_))));try simp only[List.length_map,Ex.aF] at hlen
 refine W.bF (ι:={x:Nat // match x with | k=>k≤ps.length})
  (fun x=>match x.1 with | k=>[(3,.d (.v (.slice none 0 0))),(12,.d (.v (.int .i64 ((k:Nat):Int))))]) [(10,_),(11,_)]
  (fun x=>match x.1 with | k=>[]) [] [] 0 (fun x=>match x.1 with | k=>ps.length - k)
  [] ⟨0,?_⟩ rfl ?_ ⟨rfl,rfl,rfl,rfl,trivial⟩ ?_ trivial rfl ?_
 ·exact Nat.zero_le _
 ·repeat' first | exact trivial | refine⟨rfl,?_⟩
 ·repeat' exact trivial
 rintro⟨k,O⟩;show W _ _ _ _ _ ⟨[(3,.d (.v (.slice none 0 0))),(12,.d (.v (.int .i64 ((k:Nat):Int)))),(10,_),(11,_)],[],[],0⟩;refine W.seq (W.region (pE rfl (WO.nil (qs (W.seq (ca (l:=ps) (k:=k) rfl (by simp[Ex.aF,aw]) O (fun p J hd M=>?_) (fun he hd=>?_)))))));·
  refine W.skip (qs (W.seq (W.block (W.seq (W.region (pu (indexAddr (l:=p.c) aa rfl rfl rfl rfl rfl rfl (Int.natCast_nonneg _) (aV J) rfl) rfl ?_))))));refine pE rfl (aL aa rfl rfl rfl (ax aa rfl rfl rfl rfl rfl rfl rfl rfl (WO.nil (qs (W.seq (W.region (pE rfl (pE rfl (pE rfl (WO.nil (qs (an rfl (fun I=>?_) (fun I=>?_)))))))))))));·
   exfalso;have:=(ok.2.1 p (List.mem_of_getElem? J)).2.1;simp at I;omega
  refine W.skip (bz (qs (W.region ?_)));iterate 2 refine pE rfl ?_
  refine WO.nil (W.bU [] ⟨k+1,?_⟩ ?_ rfl ?_ ⟨rfl,rfl,rfl,rfl,trivial⟩ ?_ trivial rfl);·exact M
  ·dsimp only;omega
  ·repeat' first | exact trivial | refine⟨rfl,?_⟩ | refine⟨aP (by assumption) (by assumption),?_⟩
  repeat' exact trivial
 refine W.exit (bb (be (ba (qs (W.seq (W.region ?_))))));iterate 2 refine pE rfl ?_
 refine WO.nil (qs ?_);try refine pd (d:=2) rfl rfl ?_
 refine W.ret (QF.aB trivial rfl ?_);rfl
end Go.Proofs.YtpiaiiopakafhaaGreatDoor
namespace Go.Proofs.YtpiaiiopakafhaaGreatDoor
open Go.Ab Go.RowKit
abbrev tB:Nat:=150
abbrev tU:Nat:=5
theorem vT:(Tryz.prog.info? tB).map (·.size)=some 2:=by kernel_rfl
theorem B1:liesAt Tryz.prog Tryz.prog.depth tB (2 / Tryz.prog.cellsOf tB) 0 tB 1=true:=by kernel_rfl
set_option maxHeartbeats 1000000 in
set_option maxRecDepth 100000 in
theorem BR (b:Nat) (w:World) (h0:w.cell? ⟨b,0,none⟩=some (.pointer (some ⟨b,0,none⟩))) :
 Calls Tryz.prog 170 #[.pointer (some ⟨b,0,none⟩)] w fun e w'=>e=.returned (.tuple #[])∧w'=w:=by
 obtain⟨j,hj,_⟩:=Option.map_eq_some_iff.1 vT;have t150:=Tryz.underlying150;have I:=Tryz.isAgg150;have J:=Tryz.sizeOf150;have M:=run_underlying Tryz.underlying150;have t147:=Tryz.underlying147;have N:=Tryz.isAgg147;have O:=Tryz.sizeOf147;have U:=run_underlying Tryz.underlying147;have t225:=Tryz.underlying225;have X:=Tryz.isAgg225;have Z:=Tryz.sizeOf225;have ad:=run_underlying Tryz.underlying225
 go_enter Tryz.func170,Tryz.ntmps170
 go_wp2
 rw[Lib.run_neq_ptr_same w _ Tryz.underlying147 hj]
 go_wp2
 go_end0
 exact⟨rfl,rfl⟩
set_option maxHeartbeats 1000000 in
set_option maxRecDepth 100000 in
theorem zb (b:Nat) (w:World) (h0:w.cell? ⟨b,0,none⟩=some (.pointer none)) (I:w.shape? b=some (tB,2)) (a1:w.frozen? ⟨b,0,none⟩=false) :
 Calls Tryz.prog 170 #[.pointer (some ⟨b,0,none⟩)] w fun e w'=>e=.returned (.tuple #[])∧w'=w.setCell ⟨b,0,none⟩ (.pointer (some ⟨b,0,none⟩)):=by
 obtain⟨j,hj,J⟩:=Option.map_eq_some_iff.1 vT;have t150:=Tryz.underlying150;have M:=Tryz.isAgg150;have N:=Tryz.sizeOf150;have O:=run_underlying Tryz.underlying150;have t147:=Tryz.underlying147;have U:=Tryz.isAgg147;have X:=Tryz.sizeOf147;have Z:=run_underlying Tryz.underlying147;have t225:=Tryz.underlying225;have ad:=Tryz.isAgg225;have ai:=Tryz.sizeOf225;have aj:=run_underlying Tryz.underlying225
 go_enter Tryz.func170,Tryz.ntmps170
 go_wp2
 rw[Lib.run_to_unsafe w ⟨b,0,none⟩ Tryz.underlying147 Tryz.underlying225 hj (by rw[J];decide) I (Nat.zero_lt_succ 1)];simp only[Result.andThen];rw[Oper.upon_value]
 go_wp2
 rw[run_callFunc_extern Tryz.func186 (by kernel_rfl) (by kernel_rfl) (by kernel_rfl) (e:=Extern.AbiNoEscape.same) (by kernel_rfl)];rw[Lib.run_noEscape];simp only[Result.andThen];rw[Oper.upon_value]
 go_wp2
 rw[Lib.run_from_unsafe w ⟨b,0,none⟩ Tryz.underlying225 Tryz.underlying147 hj I B1];simp only[Result.andThen];rw[Oper.upon_value]
 go_wp2
 go_end0
 exact⟨rfl,rfl⟩
theorem ED:iC Tryz.prog 170:=⟨_,Tryz.func170,by kernel_rfl,by kernel_rfl⟩
theorem An:iC Tryz.prog 90:=⟨_,Tryz.func90,by kernel_rfl,by kernel_rfl⟩
theorem BL:kg Tryz.prog tB 170:=⟨BR,zb⟩
theorem xD:qg Tryz.prog tB tU 90:=fun B b l w h hB=>Tryz.Builder_String_any B b l w h hB
end Go.Proofs.YtpiaiiopakafhaaGreatDoor
namespace Go.Proofs.YtpiaiiopakafhaaGreatDoor
open Go.Ab Go.Tb
set_option maxRecDepth 10000
set_option maxHeartbeats 1000000
attribute [local irreducible] W WO Pu QS QB QL QF QV bu CH QE
theorem oO (u:Bool) (s:ByteArray):bp Tryz.prog 170 [.ptr 0 0] [[.np 0 tB u,.bf 1 tU s]] 1 (.tup []) [[.np 0 tB true,.bf 1 tU s]] 1:=kg.Bj ED BL u (.bf 1 tU s) 1
theorem zm (u:Bool) (s x:ByteArray) (hb:s.size+x.size≤140737488355328):bp Tryz.prog 137 [.ptr 0 0,.d (.v (.string x))] [[.np 0 tB u,.bf 1 tU s]] 1 (.tup [.d (.v (.int .i64 x.size)),.d (.v .nilIface)]) [[.np 0 tB true,.bf 1 tU (s++x)]] 1:=by
 refine bp.cZ aa (n:=19) (rs:=[.tmp 4,.tmp 5]) Tryz.func137 (by kernel_rfl) rfl Tryz.ntmps137 Tryz.results137 rfl rfl fun C hC I=>?_;refine W.seq (W.region ?_);iterate 2 refine pE rfl ?_
 refine WO.nil (qs (W.seq (W.region (pE rfl (aE [0] [1] rfl rfl rfl rfl rfl ((oO u s)) rfl rfl (by rfl) (by rfl) rfl rfl rfl rfl ?_)))));refine WO.nil (qs (W.seq (W.region ?_)));iterate 4 refine pE rfl ?_
 refine pE rfl (pE rfl (yA aa rfl rfl rfl rfl rfl rfl rfl rfl rfl rfl hb rfl rfl ?_));iterate 2 refine pE rfl ?_
 refine ax aa rfl rfl rfl rfl rfl rfl rfl rfl (WO.nil (qs (W.seq (W.region ?_))));iterate 4 refine pE rfl ?_
 refine WO.nil (qs (W.ret (b4.end aa [4] trivial rfl rfl rfl rfl ?_ ?_)));·exact⟨rfl,trivial⟩
 rfl
theorem mw (u:Bool) (s:ByteArray) (c:Int) (m:ByteArray) (hm:m.size=1) (I:∀ b,m.data[0]? = some b→(b.toNat:Int)=c) (hb:s.size+1≤140737488355328):bp Tryz.prog 139 [.ptr 0 0,.d (.v (.int .u8 c))] [[.np 0 tB u,.bf 1 tU s]] 1 (.d (.v .nilIface)) [[.np 0 tB true,.bf 1 tU (s++m)]] 1:=by
 refine bp.cZ aa (n:=17) (rs:=[.tmp 4]) Tryz.func139 (by kernel_rfl) rfl Tryz.ntmps139 Tryz.results139 rfl rfl fun C hC J=>?_;refine W.seq (W.region (pE rfl (WO.nil (qs (W.seq (W.region (pE rfl (aE [0] [1] rfl rfl rfl rfl rfl ((oO u s)) rfl rfl (by rfl) (by rfl) rfl rfl rfl rfl ?_))))))));refine WO.nil (qs (W.seq (W.region ?_)));iterate 4 refine pE rfl ?_
 refine pE rfl (pE rfl (pu (aZ aa rfl rfl rfl rfl rfl rfl rfl rfl rfl) rfl ?_));refine wN aa rfl rfl rfl rfl rfl rfl rfl rfl m hm I hb rfl rfl ?_;iterate 2 refine pE rfl ?_
 refine ax aa rfl rfl rfl rfl rfl rfl rfl rfl (WO.nil (qs (W.seq (W.region (pE rfl (WO.nil (qs (W.ret (b4.end aa [4] trivial rfl rfl rfl rfl ?_ ?_)))))))));·exact⟨rfl,trivial⟩
 rfl
theorem vW (b:UInt8):az Tryz.prog 171 [.d (.v (.int .u8 b.toNat))] (.d (.v (.bool (known b)))) 0:=by
 refine az.bl (n:=17) (ts:=[2]) Tryz.func171 (by kernel_rfl) rfl Tryz.ntmps171 Tryz.results171 rfl rfl fun C hC I=>?_;refine W.seq (W.region (pE rfl (WO.nil (qs (W.seq ?_)))));apply aO;(case hb=>rfl);·repeat' first | refine bt rfl rfl rfl | refine aG rfl rfl ?_ | refine aD rfl rfl rfl rfl ?_ | refine nr rfl rfl rfl ?_ | refine pE rfl ?_ | refine WO.nil ?_ | (apply bj;(case hj=>rfl);(case hl=>rfl))
 refine qs (W.ret (QF.aB trivial rfl ?_));show A.d (D.v (Value.bool _))=A.d (D.v (Value.bool _));congr 3;unfold known;generalize b.toNat=n;simp only[show((n:Int)=9)=(n=9) from propext (by omega),show((n:Int)=10)=(n=10) from propext (by omega),show((32:Int)≤n)=(32≤n) from propext (by omega),show((n:Int)≤126)=(n≤126) from propext (by omega)];cases decide (n=9) <;> cases decide (n=10) <;> cases decide (32≤n) <;> cases decide (n≤126) <;> rfl
theorem plain_fn (s:ByteArray):az Tryz.prog 144 [.d (.v (.string s))] (.d (.v (.bool (cH s)))) 0:=by
 refine az.bl (n:=15) (ts:=[2]) Tryz.func144 (by kernel_rfl) rfl Tryz.ntmps144 Tryz.results144 rfl rfl fun C hC O=>?_;refine W.seq (W.region (pE rfl (WO.nil (qs ?_))));iterate 2 refine W.seq ?_
 refine W.region ?_;iterate 3 refine pE rfl ?_
 refine WO.nil (qs (W.block (W.l9 (t:=0) rfl (fun hok=>?_))));have hlen:=kQ hok
 refine W.bF (ι:={x:Nat // match x with | k=>k≤(ah s).length∧((ah s).drop k).all known=(ah s).all known})
  (fun x=>match x.1 with | k=>[(6,.d (.v (.int .i64 ((k:Nat):Int))))]) [(0,_),(5,_)]
  (fun x=>match x.1 with | k=>[]) [] [] 0 (fun x=>match x.1 with | k=>(ah s).length - k)
  [] ⟨0,?_⟩ rfl ?_ ⟨rfl,rfl,rfl,rfl,trivial⟩ ?_ trivial rfl ?_
 ·exact⟨Nat.zero_le _,rfl⟩
 ·repeat' first | exact trivial | refine⟨rfl,?_⟩
 ·repeat' exact trivial
 rintro⟨k,N,I⟩;show W _ _ _ _ _ ⟨[(6,.d (.v (.int .i64 ((k:Nat):Int)))),(0,_),(5,_)],[],[],0⟩;refine W.seq (W.region (pE rfl (WO.nil (qs (W.seq (ca (l:=ah s) (k:=k) rfl (by simp[Ex.aF,aw]) N (fun b U hd J=>?_) (fun he hd=>?_)))))));·
  rw[hd,List.all_cons] at I;refine W.skip (qs (W.seq (W.block (W.seq (W.region ?_)))));iterate 2 refine pE rfl ?_
  refine WO.nil (qs (W.seq (W.region ?_)));iterate 2 refine pE rfl ?_
  refine pu (dM aa rfl rfl rfl rfl (Int.natCast_nonneg _) (gf (by assumption))) rfl ?_;refine pu (ay rfl rfl rfl (vW ..) rfl) rfl ?_;refine pE rfl (WO.nil (qs (an rfl (fun M=>?_) (fun M=>?_))));·
   refine W.seq (W.region (pE rfl (WO.nil (qs (W.ret (aJ (aA (dV (aJ (aA (QF.aB trivial rfl ?_)))))))))));simp only[norm,aT];unfold cH;rw[←I];simp_all
  refine W.skip (bz (qs (W.region ?_)));iterate 2 refine pE rfl ?_
  refine WO.nil (W.bU [] ⟨k+1,?_⟩ ?_ rfl ?_ ⟨rfl,rfl,rfl,rfl,trivial⟩ ?_ trivial rfl);·exact⟨J,by rw[←I];simp_all⟩
  ·dsimp only;omega
  ·repeat' first | exact trivial | refine⟨aP (by assumption) (by assumption),?_⟩
  repeat' exact trivial
 rw[hd] at I;refine W.exit (bb (be (ba (qs (W.seq (W.region (pE rfl (WO.nil (qs (W.ret (QF.aB trivial rfl ?_)))))))))));simp only[norm,aT];unfold cH;rw[←I];simp_all
theorem CS (a b:Nat) (I:a≤maxLen) (hb:b≤maxLen):decide (IntKind.i64.wrap ((a:Int)+(b:Int))=0)=decide (a+b=0):=by
 have e:maxLen=9223372036854775807:=rfl;have h:=wrap_zero (x:=(a:Int)+(b:Int)) (by omega) (by omega);by_cases q:a+b=0;·rw[decide_eq_true q,decide_eq_true (h.2 (by omega))]
 rw[decide_eq_false q,decide_eq_false (fun z=>q (by have:=h.1 z;omega))]
theorem zf (j:JV):az Tryz.prog 142 [.ag j.c] (.d (.v (.bool (bG j)))) 0:=by
 refine az.bl (n:=91) (ts:=[2]) Tryz.func142 (by kernel_rfl) rfl Tryz.ntmps142 Tryz.results142 rfl rfl fun C hC Z=>?_;refine W.seq (W.region (cw rfl rfl rfl (pE rfl (WO.nil (qs ?_)))));iterate 2 refine W.seq ?_
 refine zK (g:=0) (j:=3) rfl rfl (fun M=>?_);refine zK (g:=0) (j:=4) rfl rfl (fun N=>?_);rw[List.length_map] at M;rw[JV.aF] at N;have I:=CS _ _ M N;refine W.region (pE rfl (pE rfl (WO.nil (qs (W.block (W.seq (W.region ?_)))))));iterate 2 refine pE rfl ?_
 refine WO.nil (qs (an rfl (fun h5=>?_) (fun h5=>?_)));·
  refine W.seq ?_;apply aO;(case hb=>rfl);·repeat' first | refine bt rfl rfl rfl | refine aG rfl rfl ?_ | refine aD rfl rfl rfl rfl ?_ | refine pE rfl ?_ | refine WO.nil ?_ | (apply bj;(case hj=>rfl);(case hl=>rfl))
  refine qs (W.ret (aJ (aA (QF.aB trivial rfl ?_))));show A.d (D.v (Value.bool _))=A.d (D.v (Value.bool _));congr 3;unfold bG;try simp only[List.length_map,JV.aF,I]
  simp only[decide_eq_true_eq,decide_eq_false_iff_not] at *;simp_all <;> grind
 iterate 2 refine W.seq ?_
 refine W.region ?_;iterate 2 refine pE rfl ?_
 refine WO.nil (qs (an rfl (fun J=>?_) (fun J=>?_)));·
  refine W.skip (qs (W.lB rfl (W.seq ?_)));apply aO;(case hb=>rfl);·repeat' first | refine bt rfl rfl rfl | refine aG rfl rfl ?_ | refine aD rfl rfl rfl rfl ?_ | refine pE rfl ?_ | refine WO.nil ?_ | (apply bj;(case hj=>rfl);(case hl=>rfl))
  refine qs (W.ret (aJ (aA (QF.aB trivial rfl ?_))));show A.d (D.v (Value.bool _))=A.d (D.v (Value.bool _));congr 3;unfold bG;try simp only[List.length_map,JV.aF,I]
  simp only[decide_eq_true_eq,decide_eq_false_iff_not] at *;simp_all <;> grind
 refine W.region ?_;iterate 2 refine pE rfl ?_
 refine WO.nil (qs (an rfl (fun J=>?_) (fun J=>?_)));·
  refine W.seq ?_;apply aO;(case hb=>rfl);·repeat' first | refine bt rfl rfl rfl | refine aG rfl rfl ?_ | refine aD rfl rfl rfl rfl ?_ | refine pE rfl ?_ | refine WO.nil ?_ | (apply bj;(case hj=>rfl);(case hl=>rfl))
  refine qs (W.ret (aJ (aA (QF.aB trivial rfl ?_))));show A.d (D.v (Value.bool _))=A.d (D.v (Value.bool _));congr 3;unfold bG;try simp only[List.length_map,JV.aF,I]
  simp only[decide_eq_true_eq,decide_eq_false_iff_not] at *;simp_all <;> grind
 refine W.seq (W.region ?_);iterate 2 refine pE rfl ?_
 refine WO.nil (qs (an rfl (fun O=>?_) (fun O=>?_)));·
  refine W.seq ?_;apply aO;(case hb=>rfl);·repeat' first | refine bt rfl rfl rfl | refine aG rfl rfl ?_ | refine aD rfl rfl rfl rfl ?_ | refine pE rfl ?_ | refine WO.nil ?_ | (apply bj;(case hj=>rfl);(case hl=>rfl))
  refine qs (W.ret (aJ (aA (QF.aB trivial rfl ?_))));show A.d (D.v (Value.bool _))=A.d (D.v (Value.bool _));congr 3;unfold bG;try simp only[List.length_map,JV.aF,I]
  simp only[decide_eq_true_eq,decide_eq_false_iff_not] at *;simp_all <;> grind
 refine W.seq (W.region ?_);iterate 2 refine pE rfl ?_
 refine WO.nil (qs (an rfl (fun U=>?_) (fun U=>?_)));·
  refine W.seq ?_;apply aO;(case hb=>rfl);·repeat' first | refine bt rfl rfl rfl | refine aG rfl rfl ?_ | refine aD rfl rfl rfl rfl ?_ | refine pE rfl ?_ | refine WO.nil ?_ | (apply bj;(case hj=>rfl);(case hl=>rfl))
  refine qs (W.ret (aJ (aA (QF.aB trivial rfl ?_))));show A.d (D.v (Value.bool _))=A.d (D.v (Value.bool _));congr 3;unfold bG;try simp only[List.length_map,JV.aF,I]
  simp only[decide_eq_true_eq,decide_eq_false_iff_not] at *;simp_all <;> grind
 refine W.seq (W.region ?_);iterate 2 refine pE rfl ?_
 refine WO.nil (qs (an rfl (fun X=>?_) (fun X=>?_)));·
  refine W.seq ?_;apply aO;(case hb=>rfl);·repeat' first | refine bt rfl rfl rfl | refine aG rfl rfl ?_ | refine aD rfl rfl rfl rfl ?_ | refine pE rfl ?_ | refine WO.nil ?_ | (apply bj;(case hj=>rfl);(case hl=>rfl))
  refine qs (W.ret (aJ (aA (QF.aB trivial rfl ?_))));show A.d (D.v (Value.bool _))=A.d (D.v (Value.bool _));congr 3;unfold bG;try simp only[List.length_map,JV.aF,I]
  simp only[decide_eq_true_eq,decide_eq_false_iff_not] at *;simp_all <;> grind
 refine W.skip (bz (qs (W.seq (W.region (pE rfl (WO.nil (qs (W.ret (QF.aB trivial rfl ?_)))))))));show A.d (D.v (Value.bool _))=A.d (D.v (Value.bool _));congr 3;unfold bG;try simp only[List.length_map,JV.aF,I]
 simp only[decide_eq_true_eq,decide_eq_false_iff_not] at *;simp_all <;> grind
theorem wM (l:List ByteArray):az Tryz.prog 146 [.d (.sl (l.map sc))] (.d (.v (.bool (eN [] l)))) 0:=by
 refine az.bl (n:=19) (ts:=[2]) Tryz.func146 (by kernel_rfl) rfl Tryz.ntmps146 Tryz.results146 rfl rfl fun C hC hG=>?_;refine W.seq (W.region (pE rfl (WO.nil (qs (W.seq (W.region (mkMap rfl ?_)))))));refine pE rfl (WO.nil (qs ?_));iterate 2 refine W.seq ?_
 refine W.region ?_;iterate 3 refine pE rfl ?_
 refine WO.nil (qs (W.block (W.len (t:=7) rfl rfl (fun hlen=>?_))));try simp only[List.length_map,Ex.aF] at hlen
 refine W.bF (ι:={x:Nat // match x with | k=>k≤l.length∧(l.take k).Nodup∧eN (l.take k) (l.drop k)=eN [] l})
  (fun x=>match x.1 with | k=>[(3,.mp 0 (ee sk bv (fc (l.take k)))),(9,.d (.v (.int .i64 ((k:Nat):Int))))]) [(7,_),(8,_)]
  (fun x=>match x.1 with | k=>[]) [] [0] 1 (fun x=>match x.1 with | k=>l.length - k)
  [0] ⟨0,?_⟩ rfl ?_ ⟨rfl,rfl,rfl,rfl,trivial⟩ ?_ trivial rfl ?_
 ·exact⟨Nat.zero_le _,by simp,by simp⟩
 ·repeat' first | exact trivial | refine⟨rfl,?_⟩
 ·repeat' exact trivial
 rintro⟨k,Z,N,I⟩;show W _ _ _ _ _ ⟨[(3,.mp 0 (ee sk bv (fc (l.take k)))),(9,.d (.v (.int .i64 ((k:Nat):Int)))),(7,_),(8,_)],[],[0],1⟩;refine W.seq (W.region (pE rfl (WO.nil (qs (W.seq (ca (l:=l) (k:=k) rfl (by simp[Ex.aF,aw]) Z (fun s O hd U=>?_) (fun he hd=>?_)))))));·
  rw[hd] at I;simp only[eN] at I;have M:l.take (k+1)=l.take k++[s]:=by rw[List.take_add_one,O];rfl
  refine W.skip (qs (W.seq (W.block (W.seq (W.region (pu (indexAddr aa rfl rfl rfl rfl rfl rfl (Int.natCast_nonneg _) (aV O) rfl) rfl ?_))))));refine pE rfl (pE rfl (WO.nil (qs ?_)));iterate 2 refine W.seq ?_
  refine W.region ?_;iterate 2 refine pE rfl ?_
  refine pu (kF (kf:=sk) (vf:=bv) (l:=fc (l.take k)) (a:=s) (z:=false) (zx:=.bool false) aa rfl rfl rfl rfl rfl (qH (aa.gQ rfl rfl)) rfl rfl rfl (fun w pv=>.v _ rfl) (by rw[iO];exact N) (congrArg bv (tz N s))) rfl ?_;refine WO.nil (qs (an rfl (fun J=>?_) (fun J=>?_)));·
   rw[if_pos J] at I;refine W.seq (W.region (pE rfl (WO.nil (qs (W.ret (aA (aJ (aA (dV (aJ (aA (QF.aB trivial rfl ?_))))))))))));simp only[norm,aT];rw[←I]
  rw[if_neg (by simp[J])] at I;have X:=rk N J;refine W.skip (qs (W.region ?_));iterate 2 refine pE rfl ?_
  refine rl (kf:=sk) (vf:=bv) (l:=fc (l.take k)) (a:=s) (y:=true) aa 3 rfl rfl rfl rfl rfl rfl rfl (qH (aa.gQ rfl rfl)) rfl rfl (by rw[iO];exact N) (congrArg (ee sk bv) ((sM J).trans (congrArg fc M.symm))) rfl ?_;refine WO.nil (bz (qs (W.region ?_)));iterate 2 refine pE rfl ?_
  refine WO.nil (W.bU [1] ⟨k+1,?_⟩ ?_ rfl ?_ ⟨rfl,rfl,rfl,rfl,trivial⟩ ?_ trivial rfl);·exact⟨U,by rw[M];exact X,by rw[M];exact I⟩
  ·dsimp only;omega
  ·repeat' first | exact trivial | refine⟨rfl,?_⟩ | refine⟨aP (by assumption) (by assumption),?_⟩
  repeat' exact trivial
 rw[hd] at I;simp only[eN] at I;refine W.exit (bb (be (ba (qs (W.seq (W.region (pE rfl (WO.nil (qs (W.ret (QF.aB trivial rfl ?_)))))))))));simp only[norm,aT];rw[←I]
end Go.Proofs.YtpiaiiopakafhaaGreatDoor
namespace Go.Proofs.YtpiaiiopakafhaaGreatDoor
open Go.Ab Go.Tb
set_option maxRecDepth 10000
set_option maxHeartbeats 1000000
attribute [local irreducible] W WO Pu QS QB QL QF QV bu CH QE
theorem hJ (j:JV):j.c=[ci j.op,ci j.n,cs j.s,.sl (j.keys.map sc),.sl (j.kids.map JV.c)]:=by unfold JV.c;rw[JV.mr]
theorem eU (j:JV) (level:Int):aX j level=if eA j level≠0 then eA j level else cB j.kids (level+1):=by cases j;simp only[aX,JV.kids]
theorem wI (s:ByteArray):az Tryz.prog 145 [.d (.v (.string s))] (.d (.v (.bool (!cH s)))) 0:=by
 refine az.bl (n:=6) (ts:=[2]) Tryz.func145 (by kernel_rfl) rfl Tryz.ntmps145 Tryz.results145 rfl rfl fun C hC I=>?_;refine W.seq (W.region (pE rfl (WO.nil (qs (W.seq (W.region (pE rfl (pu (ay rfl rfl rfl (plain_fn ..) rfl) rfl ?_))))))));iterate 2 refine pE rfl ?_
 refine WO.nil (qs (W.ret (QF.aB trivial rfl ?_)));rfl
theorem zR:∀ (j:JV) (level:Int),0≤level→level≤17→az Tryz.prog 95 [.ag j.c,.d (.v (.int .i64 level))] (.d (.v (.int .i64 (aX j level)))) 0:=by
 refine JV.ind fun j J=>?_;intro level h0 h1;have I:=zf j;rw[hJ j] at I ⊢;have ad:bG j=true→j.op < 5→j.kids=[]:=by
  intro M a6;unfold bG at M;have e5:¬ j.op=5:=by omega
  have e6:¬ j.op=6:=by omega
  rw[if_neg e5,if_neg e6] at M;refine List.length_eq_zero_iff.1 ?_;split at M;·simp only[Bool.and_eq_true,decide_eq_true_eq] at M;omega
  split at M;·simp only[Bool.and_eq_true,decide_eq_true_eq] at M;omega
  split at M;·simp only[Bool.and_eq_true,decide_eq_true_eq] at M;omega
  cases M
 refine az.bl (n:=70) (ts:=[4]) Tryz.func95 (by kernel_rfl) rfl Tryz.ntmps95 Tryz.results95 rfl rfl fun C hC hG=>?_;refine W.seq (W.region (cw rfl rfl rfl (pE rfl (WO.nil (qs (W.seq (W.block (W.seq (W.region (pE rfl (pu (ay rfl rfl rfl I rfl) rfl ?_)))))))))));iterate 2 refine pE rfl ?_
 refine WO.nil (qs (an rfl (fun h8=>?_) (fun h8=>?_)));·
  refine W.seq (W.region (pE rfl (WO.nil (qs (W.ret (aJ (aA (QF.aB trivial rfl ?_))))))));clear J I;show A.d (D.v (Value.int _ _))=A.d (D.v (Value.int _ _));congr 3;rw[eU j];unfold eA;grind
 iterate 2 refine W.seq ?_
 apply aO;(case hb=>rfl);·repeat' first | refine bt rfl rfl rfl | refine aG rfl rfl ?_ | refine aD rfl rfl rfl rfl ?_ | refine pE rfl ?_ | refine WO.nil ?_ | (apply bj;(case hj=>rfl);(case hl=>rfl))
 refine qs (an rfl (fun O=>?_) (fun O=>?_));·
  refine W.skip (qs (W.lB rfl (W.seq (W.region (pE rfl (WO.nil (qs (W.ret (aJ (aA (QF.aB trivial rfl ?_)))))))))));clear J I;show A.d (D.v (Value.int _ _))=A.d (D.v (Value.int _ _));congr 3;rw[eU j];unfold eA;grind
 apply aO;(case hb=>rfl);·repeat' first | refine bt rfl rfl rfl | refine aG rfl rfl ?_ | refine aD rfl rfl rfl rfl ?_ | refine pE rfl ?_ | refine pu (ay rfl rfl rfl (B8 ..) rfl) rfl ?_ | refine WO.nil ?_ | (apply bj;(case hj=>rfl);(case hl=>rfl))
 refine qs (an rfl (fun O=>?_) (fun O=>?_));·
  refine W.seq (W.region (pE rfl (WO.nil (qs (W.ret (aJ (aA (QF.aB trivial rfl ?_))))))));clear J I;show A.d (D.v (Value.int _ _))=A.d (D.v (Value.int _ _));congr 3;rw[eU j];unfold eA;grind
 iterate 2 refine W.seq ?_
 refine W.region (pE rfl (pE rfl (pu (ay rfl rfl rfl (plain_fn ..) rfl) rfl ?_)));iterate 2 refine pE rfl ?_
 refine WO.nil (qs (an rfl (fun U=>?_) (fun U=>?_)));·
  refine W.skip (qs (W.lB rfl (W.seq (W.region (pE rfl (WO.nil (qs (W.ret (aJ (aA (QF.aB trivial rfl ?_)))))))))));clear J I;show A.d (D.v (Value.int _ _))=A.d (D.v (Value.int _ _));congr 3;rw[eU j];unfold eA;grind
 refine W.region (pE rfl (pE rfl (pu (ay rfl rfl rfl (su _ [] ⟨fun _ _=>rfl,rfl⟩ _ wI j.keys) rfl) rfl ?_)));refine pE rfl (WO.nil (qs (an rfl (fun U=>?_) (fun U=>?_))));·
  refine W.seq (W.region (pE rfl (WO.nil (qs (W.ret (aJ (aA (QF.aB trivial rfl ?_))))))));clear J I;show A.d (D.v (Value.int _ _))=A.d (D.v (Value.int _ _));congr 3;rw[eU j];unfold eA;grind
 refine W.seq (W.region (pE rfl (pE rfl (pu (ay rfl rfl rfl (wM ..) rfl) rfl ?_))));refine pE rfl (WO.nil (qs (an rfl (fun aj=>?_) (fun aj=>?_))));·
  refine W.seq (W.region (pE rfl (WO.nil (qs (W.ret (aJ (aA (QF.aB trivial rfl ?_))))))));clear J I;show A.d (D.v (Value.int _ _))=A.d (D.v (Value.int _ _));congr 3;rw[eU j];unfold eA;grind
 refine W.seq ?_;apply aO;(case hb=>rfl);·repeat' first | refine bt rfl rfl rfl | refine aG rfl rfl ?_ | refine aD rfl rfl rfl rfl ?_ | refine pE rfl ?_ | refine WO.nil ?_ | (apply bj;(case hj=>rfl);(case hl=>rfl))
 refine qs (an rfl (fun ai=>?_) (fun ai=>?_));·
  refine W.seq (W.region (pE rfl (WO.nil (qs (W.ret (aJ (aA (QF.aB trivial rfl ?_))))))));clear J I;show A.d (D.v (Value.int _ _))=A.d (D.v (Value.int _ _));congr 3;rw[eU j];unfold eA;grind
 refine W.skip (bz (qs ?_));iterate 2 refine W.seq ?_
 refine W.region (pE rfl (pE rfl ?_));iterate 2 refine pE rfl ?_
 refine WO.nil (qs (W.block (W.len (t:=56) rfl rfl (fun hlen=>?_))));try simp only[List.length_map,Ex.aF] at hlen
 refine W.bF (ι:={x:Nat // match x with | k=>k≤j.kids.length∧cB (j.kids.drop k) (level+1)=cB j.kids (level+1)})
  (fun x=>match x.1 with | k=>[(58,.d (.v (.int .i64 ((k:Nat):Int))))]) [(1,_),(56,_),(57,_)]
  (fun x=>match x.1 with | k=>[]) [] [] 0 (fun x=>match x.1 with | k=>j.kids.length - k)
  [] ⟨0,?_⟩ rfl ?_ ⟨rfl,rfl,rfl,rfl,rfl,rfl,trivial⟩ ?_ trivial rfl ?_
 ·exact⟨Nat.zero_le _,by simp⟩
 ·repeat' first | exact trivial | refine⟨rfl,?_⟩
 ·repeat' exact trivial
 rintro⟨k,hk,N⟩;show W _ _ _ _ _ ⟨[(58,.d (.v (.int .i64 ((k:Nat):Int)))),(1,_),(56,_),(57,_)],[],[],0⟩;refine W.seq (W.region (pE rfl (WO.nil (qs (W.seq (ca (l:=j.kids) (k:=k) rfl (by simp[Ex.aF,aw]) hk (fun x hx hd X=>?_) (fun he hd=>?_)))))));·
  rw[hd] at N;simp only[cB] at N;have a7:level≤16:=by
   by_cases q:j.op < 5;·rw[ad (by simpa using h8) q] at X;simp at X
   revert ai;simp;omega
  have a1:=J x (List.mem_of_getElem? hx) (level+1) (by omega) (by omega);refine W.skip (qs (W.seq (W.block (W.seq (W.region (pu (indexAddr aa rfl rfl rfl rfl rfl rfl (Int.natCast_nonneg _) (aV hx) rfl) rfl ?_))))));refine pE rfl (aL aa rfl rfl rfl (ax aa rfl rfl rfl rfl rfl rfl rfl rfl (WO.nil (qs (W.seq (W.region (pE rfl (pE rfl (pu (dn (ev aa rfl) (wrap64 (by omega))) rfl ?_)))))))));refine pu (ay rfl rfl rfl a1 rfl) rfl ?_;refine pE rfl (WO.nil (qs (W.seq (W.region ?_))));iterate 2 refine pE rfl ?_
  refine WO.nil (qs (an rfl (fun Z=>?_) (fun Z=>?_)));·
   have hc:aX x (level+1)≠0:=by simpa using Z
   rw[if_pos hc] at N;refine W.seq (W.region ?_);iterate 2 refine pE rfl ?_
   refine WO.nil (qs (W.ret (aJ (aA (dV (aJ (aA (QF.aB trivial rfl ?_))))))));clear J I;show A.d (D.v (Value.int _ _))=A.d (D.v (Value.int _ _));congr 3;rw[eU j];unfold eA;grind
  have hc:aX x (level+1)=0:=by simpa using Z
  rw[if_neg (by simp[hc])] at N;refine W.skip (bz (qs (W.region ?_)));iterate 2 refine pE rfl ?_
  refine WO.nil (W.bU [] ⟨k+1,?_⟩ ?_ rfl ?_ ⟨rfl,rfl,rfl,rfl,rfl,rfl,trivial⟩ ?_ trivial rfl);·exact⟨X,N⟩
  ·dsimp only;omega
  ·repeat' first | exact trivial | refine⟨aP (by assumption) (by assumption),?_⟩
  repeat' exact trivial
 rw[hd] at N;simp only[cB] at N;refine W.exit (bb (be (ba (qs (W.seq (W.region (pE rfl (WO.nil (qs (W.ret (QF.aB trivial rfl ?_)))))))))));clear J I;show A.d (D.v (Value.int _ _))=A.d (D.v (Value.int _ _));congr 3;rw[eU j];unfold eA;grind
end Go.Proofs.YtpiaiiopakafhaaGreatDoor
namespace Go.Proofs.YtpiaiiopakafhaaGreatDoor
open Go.Ab Go.Tb
set_option maxRecDepth 10000
set_option maxHeartbeats 1000000
attribute [local irreducible] W WO Pu QS QB QL QF QV bu CH QE
end Go.Proofs.YtpiaiiopakafhaaGreatDoor
namespace Go.Proofs.YtpiaiiopakafhaaGreatDoor
open Go.Ab Go.Tb
set_option maxRecDepth 10000
set_option maxHeartbeats 1000000
attribute [local irreducible] W WO Pu QS QB QL QF QV bu CH QE
theorem sR (j:JV):az Tryz.prog 50 [.ag j.c] (.d (.v (.int .i64 (aX j 1)))) 0:=by have h:=zR j 1 (by omega) (by omega);rw[hJ j] at h ⊢;refine az.bl (n:=5) (ts:=[2]) Tryz.func50 (by kernel_rfl) rfl Tryz.ntmps50 Tryz.results50 rfl rfl fun C hC I=>?_;refine W.seq (W.region (cw rfl rfl rfl (pE rfl (WO.nil (qs (W.seq (W.region (pE rfl (pu (ay rfl rfl rfl h rfl) rfl ?_)))))))));refine pE rfl (WO.nil (qs (W.ret (QF.aB trivial rfl ?_))));rfl
end Go.Proofs.YtpiaiiopakafhaaGreatDoor
namespace Go.Proofs.YtpiaiiopakafhaaGreatDoor
open Go.Ab Go.Tb
set_option maxRecDepth 10000
set_option maxHeartbeats 1000000
attribute [local irreducible] W WO Pu QS QB QL QF QV bu CH QE
def oJ (o:Option JV):JV:=o.getD eo
theorem Cp {j:JV} {key:ByteArray} (h:j.op≠6):dh j key=none:=by unfold dh;rw[if_neg h]
theorem vq {j:JV} {key:ByteArray} {k:Nat} (h:j.op=6) (hi:(j.keys.findIdx? fun x=>decide (key=x))=some k):dh j key=j.kids[k]?:=by unfold dh;rw[if_pos h,hi]
theorem Ae {j:JV} {key:ByteArray} (hi:(j.keys.findIdx? fun x=>decide (key=x))=none):dh j key=none:=by unfold dh;rw[hi];simp
theorem CW (j:JV) (key:ByteArray):az Tryz.prog 96 [.ag j.c,.d (.v (.string key))] (.tup [.ag (oJ (dh j key)).c,.d (.v (.bool (dh j key).isSome))]) 0:=by
 rw[hJ j];refine az.cZ aa (n:=31) (rs:=[.cell 4 46,.tmp 5]) Tryz.func96 (by kernel_rfl) rfl Tryz.ntmps96 Tryz.results96 rfl fun C hC U=>?_;refine W.seq (W.region (cw rfl rfl rfl (aL aa rfl rfl rfl (pE rfl (WO.nil (qs (W.seq (W.region (pE rfl (pE rfl (pE rfl (pu (ay rfl rfl rfl (vh j.keys key) rfl) rfl ?_))))))))))));refine pE rfl (WO.nil (qs ?_));iterate 2 refine W.seq ?_
 apply aO;(case hb=>rfl);·repeat' first | refine bt rfl rfl rfl | refine aG rfl rfl ?_ | refine aD rfl rfl rfl rfl ?_ | refine pE rfl ?_ | refine WO.nil ?_ | (apply bj;(case hj=>rfl);(case hl=>rfl))
 refine qs (an rfl (fun I=>?_) (fun I=>?_));·
  have M:dh j key=none:=by
   by_cases ho:j.op=6;·
    cases hi:(j.keys.findIdx? fun x=>decide (key=x)) with
    | none=>exact Ae hi
    | some k=>rw[vq ho hi];rw[hi,show idx (some k)=(k:Int) from rfl] at I;simp[ho] at I ⊢;omega
   exact Cp ho
  refine W.seq (W.region (pu (build aa rfl rfl rfl rfl) rfl ?_));try refine gG 25 rfl rfl rfl ?_
  refine ax aa rfl rfl rfl rfl rfl rfl rfl rfl (pE rfl (WO.nil (qs (W.ret (aA (QV.aB aa trivial rfl ?_))))));rw[M];rfl
 obtain⟨k,y,N,O,M⟩:∃ (k:Nat) (y:JV),idx (j.keys.findIdx? fun x=>decide (key=x))=(k:Int)∧j.kids[k]? = some y∧dh j key=some y:=by
  by_cases ho:j.op=6;·
   cases hi:(j.keys.findIdx? fun x=>decide (key=x)) with
   | none=>rw[hi] at I;simp[idx] at I
   | some k=>
    rw[hi] at I;rw[show idx (some k)=(k:Int) from rfl] at I;have J:k < j.kids.length:=by simp[ho] at I;omega
    exact⟨k,j.kids[k],rfl,by simp[J],by rw[vq ho hi];simp[J]⟩
  simp[ho] at I
 rw[N];refine W.skip (qs (W.seq (W.region (pE rfl (pE rfl (pE rfl (pu (indexAddr (l:=y.c) aa rfl rfl rfl rfl rfl rfl (Int.natCast_nonneg _) (aV O) rfl) rfl ?_)))))));refine pE rfl (ax aa rfl rfl rfl rfl rfl rfl rfl rfl (pE rfl (WO.nil (qs (W.ret (QV.aB aa trivial rfl ?_))))));rw[M];rfl
end Go.Proofs.YtpiaiiopakafhaaGreatDoor
namespace Go.Proofs.YtpiaiiopakafhaaGreatDoor
open Go.Ab Go.Tb
set_option maxRecDepth 10000
set_option maxHeartbeats 1000000
attribute [local irreducible] W WO Pu QS QB QL QF QV bu CH QE
theorem lp:az Tryz.prog 53 [] (.d (.sl (e8.map Fm.c))) 0:=by refine az.bl (n:=14) (ts:=[0]) Tryz.func53 (by kernel_rfl) rfl Tryz.ntmps53 Tryz.results53 rfl rfl fun C hC I=>?_;refine W.seq (W.region (pE rfl (WO.nil (qs (W.seq (W.region (pu (build aa rfl rfl rfl rfl) rfl ?_)))))));refine pu (build aa rfl rfl rfl rfl) rfl ?_;refine pu (build aa rfl rfl rfl rfl) rfl ?_;refine pu (build aa rfl rfl rfl rfl) rfl ?_;refine pu (build aa rfl rfl rfl rfl) rfl ?_;refine pu (build aa rfl rfl rfl rfl) rfl ?_;refine pu (build aa rfl rfl rfl rfl) rfl ?_;refine pu (build aa rfl rfl rfl rfl) rfl ?_;refine pu (build aa rfl rfl rfl rfl) rfl ?_;refine pu (build aa rfl rfl rfl rfl) rfl ?_;refine pu (build aa rfl rfl rfl rfl) rfl ?_;refine pu (build aa rfl rfl rfl rfl) rfl ?_;refine pu (aZ aa rfl rfl rfl rfl rfl rfl rfl rfl rfl) rfl ?_;refine pE rfl (WO.nil (qs (W.ret (QF.aB trivial rfl ?_))));rfl
theorem qQ (fid:Nat) (caps:List A) (I:Still caps) (p:Fm→Bool) (hp:∀ x:Fm,az Tryz.prog fid (.ag x.c::caps) (.d (.v (.bool (p x)))) 0) (l:List Fm) :
 az Tryz.prog 52 [.d (.sl (l.map Fm.c)),.clo fid caps] (.d (.v (.int .i64 (idx (l.findIdx? p))))) 0:=by
 refine az.bl (n:=19) (ts:=[4]) Tryz.func52 (by kernel_rfl) rfl Tryz.ntmps52 Tryz.results52 rfl rfl fun C hC X=>?_;refine W.seq (W.region (pE rfl (WO.nil (qs ?_))));iterate 2 refine W.seq ?_
 refine W.region ?_;iterate 3 refine pE rfl ?_
 refine WO.nil (qs (W.block (W.len (t:=0) rfl rfl (fun hlen=>?_))));try simp only[List.length_map,Ex.aF] at hlen
 refine W.bF (ι:={x:Nat // match x with | k=>k≤l.length∧bX p l k})
  (fun x=>match x.1 with | k=>[(8,.d (.v (.int .i64 ((k:Nat):Int))))]) [(0,_),(1,_),(7,_)]
  (fun x=>match x.1 with | k=>[]) [] [] 0 (fun x=>match x.1 with | k=>l.length - k)
  [] ⟨0,?_⟩ rfl ?_ ⟨rfl,(by first | rfl | exact I.2),rfl,(by first | rfl | exact I.2),rfl,(by first | rfl | exact I.2),trivial⟩ ?_ trivial rfl ?_
 ·exact⟨Nat.zero_le _,bX.zero⟩
 ·repeat' first | exact trivial | refine⟨rfl,?_⟩
 ·repeat' exact trivial
 rintro⟨k,U,M⟩;show W _ _ _ _ _ ⟨[(8,.d (.v (.int .i64 ((k:Nat):Int)))),(0,_),(1,_),(7,_)],[],[],0⟩;refine W.seq (W.region (pE rfl (WO.nil (qs (W.seq (ca (l:=l) (k:=k) rfl (by simp[Ex.aF,aw]) U (fun x N hd O=>?_) (fun he hd=>?_)))))));·
  refine W.skip (qs (W.seq (W.block (W.seq (W.region ?_)))));iterate 2 refine pE rfl ?_
  refine WO.nil (qs (W.seq (W.region ?_)));iterate 3 refine pE rfl ?_
  refine pu (indexAddr aa rfl rfl rfl rfl rfl rfl (Int.natCast_nonneg _) (aV (by assumption)) rfl) rfl ?_;refine pE rfl (pu (ay rfl rfl (by rw[List.map_append,I.1 _ 3];rfl) (hp x) rfl) rfl ?_);refine WO.nil (qs (an rfl (fun J=>?_) (fun J=>?_)));·
   refine W.seq (W.region ?_);iterate 2 refine pE rfl ?_
   refine WO.nil (qs (W.ret (aJ (aA (dV (aJ (aA (QF.aB trivial rfl ?_))))))));simp only[norm,aT];rw[M.found N J];rfl
  refine W.skip (bz (qs (W.region ?_)));iterate 2 refine pE rfl ?_
  refine WO.nil (W.bU [] ⟨k+1,?_⟩ ?_ rfl ?_ ⟨rfl,(by first | rfl | exact I.2),rfl,(by first | rfl | exact I.2),rfl,(by first | rfl | exact I.2),trivial⟩ ?_ trivial rfl);·exact⟨O,M.step N J⟩
  ·dsimp only;omega
  ·repeat' first | exact trivial | refine⟨aP (by assumption) (by assumption),?_⟩
  repeat' exact trivial
 refine W.exit (bb (be (ba (qs (W.seq (W.region (pE rfl (WO.nil (qs (W.ret (QF.aB trivial rfl ?_)))))))))));simp only[norm,aT];rw[M.end_ he];rfl
theorem C2 (ph:ByteArray) (f:Fm):az Tryz.prog 54 [.ag f.c,.row [.d (.v (.string ph))]] (.d (.v (.bool (decide (f.ph=ph))))) 0:=by
 refine az.bl (n:=8) (ts:=[3]) Tryz.func54 (by kernel_rfl) rfl Tryz.ntmps54 Tryz.results54 rfl rfl fun C hC I=>?_;refine W.seq (W.region (cw rfl rfl rfl (pE rfl (WO.nil (qs (W.seq (W.region (pE rfl (pE rfl (pE rfl ?_))))))))));iterate 2 refine pE rfl ?_
 refine WO.nil (qs (W.ret (QF.aB trivial rfl ?_)));rfl
theorem Aj (e:Ev) (f:Fm):az Tryz.prog 88 [.ag f.c,.row (e.c.map A.d)] (.d (.v (.bool (decide (f.kind=e.kind))))) 0:=by
 refine az.bl (n:=9) (ts:=[3]) Tryz.func88 (by kernel_rfl) rfl Tryz.ntmps88 Tryz.results88 rfl rfl fun C hC I=>?_;refine W.seq (W.region (cw rfl rfl rfl (pE rfl (WO.nil (qs (W.seq (W.region (pE rfl (pE rfl (pE rfl (pE rfl ?_)))))))))));iterate 2 refine pE rfl ?_
 refine WO.nil (qs (W.ret (QF.aB trivial rfl ?_)));rfl
theorem rY (f:Fm) (on:Bool):az Tryz.prog 58 [.ag f.c,.d (.v (.bool on))] (.d (.sl ((bh f on).map sc))) 0:=by
 refine az.bl (n:=47) (ts:=[4]) Tryz.func58 (by kernel_rfl) rfl Tryz.ntmps58 Tryz.results58 rfl rfl fun C hC U=>?_;refine W.seq (W.region (cw rfl rfl rfl (pE rfl (WO.nil (qs (W.seq (W.region (pu (Dc aa rfl rfl rfl rfl rfl rfl rfl rfl rfl) rfl ?_))))))));refine pE rfl (WO.nil (qs ?_));iterate 2 refine W.seq ?_
 refine W.region (pE rfl (pE rfl (WO.nil (qs (an rfl (fun O=>?_) (fun O=>?_))))));·
  refine W.region (pE rfl (pu (aZ aa rfl rfl rfl rfl rfl rfl rfl rfl rfl) rfl ?_));refine wg aa rfl rfl rfl rfl rfl rfl rfl rfl rfl rfl rfl rfl (iL rfl) (Nat.le_of_ble_eq_true rfl) ?_;refine pE rfl (WO.nil (qs (W.seq (W.region (pE rfl (pu (aZ aa rfl rfl rfl rfl rfl rfl rfl rfl rfl) rfl ?_))))));refine fP aa rfl rfl rfl rfl rfl rfl rfl rfl rfl rfl rfl rfl rfl rfl ?_;refine pE rfl (WO.nil (qs ?_));iterate 2 refine W.seq ?_
  refine W.region (pE rfl (pE rfl (WO.nil (qs (W.block (W.seq (W.region ?_)))))));iterate 2 refine pE rfl ?_
  refine WO.nil (qs (an rfl (fun J=>?_) (fun J=>?_)));·
   refine W.seq (W.region (pE rfl (pu (aZ aa rfl rfl rfl rfl rfl rfl rfl rfl rfl) rfl ?_)));refine fP aa rfl rfl rfl rfl rfl rfl rfl rfl rfl rfl rfl rfl rfl rfl ?_;refine pE rfl (WO.nil (qs (W.ret (aJ (aA (QF.aB trivial rfl ?_))))));simp only[norm,aT,bh];simp_all[pP,pN,aY,cN,bq,bg,eL,aU,eJ,jK,gA];try exact if_neg (fun h=>by have:=I h.1;rw[this] at h;cases h.2)
  refine W.seq (W.region ?_);iterate 2 refine pE rfl ?_
  refine WO.nil (qs (an rfl (fun M=>?_) (fun M=>?_)));·
   refine W.seq (W.region (pE rfl (pu (aZ aa rfl rfl rfl rfl rfl rfl rfl rfl rfl) rfl ?_)));refine fP aa rfl rfl rfl rfl rfl rfl rfl rfl rfl rfl rfl rfl rfl rfl ?_;refine pE rfl (WO.nil (qs (W.ret (aJ (aA (QF.aB trivial rfl ?_))))));simp only[norm,aT,bh];simp_all[pP,pN,aY,cN,bq,bg,eL,aU,eJ,jK,gA];try exact if_neg (fun h=>by have:=I h.1;rw[this] at h;cases h.2)
  refine W.skip (bz (qs ?_));iterate 2 refine W.seq ?_
  refine W.region (pE rfl (pE rfl (pE rfl (WO.nil (qs (an rfl (fun N=>?_) (fun N=>?_)))))));·
   refine W.region ?_;iterate 2 refine pE rfl ?_
   refine pE rfl (pu (aZ aa rfl rfl rfl rfl rfl rfl rfl rfl rfl) rfl ?_);refine fP aa rfl rfl rfl rfl rfl rfl rfl rfl rfl rfl rfl rfl rfl rfl ?_;refine pE rfl (WO.nil (qs ?_));iterate 2 refine W.seq ?_
   apply aO;(case hb=>rfl);·repeat' first | refine bt rfl rfl rfl | refine aG rfl rfl ?_ | refine aD rfl rfl rfl rfl ?_ | refine pE rfl ?_ | refine WO.nil ?_ | (apply bj;(case hj=>rfl);(case hl=>rfl))
   refine qs (an rfl (fun I=>?_) (fun I=>?_));·
    refine W.region ?_;iterate 2 refine pE rfl ?_
    refine pE rfl (pu (aZ aa rfl rfl rfl rfl rfl rfl rfl rfl rfl) rfl ?_);refine fP aa rfl rfl rfl rfl rfl rfl rfl rfl rfl rfl rfl rfl rfl rfl ?_;refine pE rfl (WO.nil (qs (W.seq (W.region ?_))));iterate 2 refine pE rfl ?_
    refine WO.nil (qs (W.ret (QF.aB trivial rfl ?_)));simp only[norm,aT,bh];simp_all[pP,pN,aY,cN,bq,bg,eL,aU,eJ,jK,gA];try exact if_neg (fun h=>by have:=I h.1;rw[this] at h;cases h.2)
   refine W.skip (qs (W.seq (W.region ?_)));iterate 2 refine pE rfl ?_
   refine WO.nil (qs (W.ret (QF.aB trivial rfl ?_)));simp only[norm,aT,bh];simp_all[pP,pN,aY,cN,bq,bg,eL,aU,eJ,jK,gA];try exact if_neg (fun h=>by have:=I h.1;rw[this] at h;cases h.2)
  refine W.skip (qs ?_);iterate 2 refine W.seq ?_
  apply aO;(case hb=>rfl);·repeat' first | refine bt rfl rfl rfl | refine aG rfl rfl ?_ | refine aD rfl rfl rfl rfl ?_ | refine pE rfl ?_ | refine WO.nil ?_ | (apply bj;(case hj=>rfl);(case hl=>rfl))
  refine qs (an rfl (fun I=>?_) (fun I=>?_));·
   refine W.region ?_;iterate 2 refine pE rfl ?_
   refine pE rfl (pu (aZ aa rfl rfl rfl rfl rfl rfl rfl rfl rfl) rfl ?_);refine fP aa rfl rfl rfl rfl rfl rfl rfl rfl rfl rfl rfl rfl rfl rfl ?_;refine pE rfl (WO.nil (qs (W.seq (W.region ?_))));iterate 2 refine pE rfl ?_
   refine WO.nil (qs (W.ret (QF.aB trivial rfl ?_)));simp only[norm,aT,bh];simp_all[pP,pN,aY,cN,bq,bg,eL,aU,eJ,jK,gA];try exact if_neg (fun h=>by have:=I h.1;rw[this] at h;cases h.2)
  refine W.skip (qs (W.seq (W.region ?_)));iterate 2 refine pE rfl ?_
  refine WO.nil (qs (W.ret (QF.aB trivial rfl ?_)));simp only[norm,aT,bh];simp_all[pP,pN,aY,cN,bq,bg,eL,aU,eJ,jK,gA];try exact if_neg (fun h=>by have:=I h.1;rw[this] at h;cases h.2)
 refine W.skip (qs (W.seq (W.region (pE rfl (pu (aZ aa rfl rfl rfl rfl rfl rfl rfl rfl rfl) rfl ?_)))));refine wg aa rfl rfl rfl rfl rfl rfl rfl rfl rfl rfl rfl rfl (iL rfl) (Nat.le_of_ble_eq_true rfl) ?_;refine pE rfl (WO.nil (qs ?_));iterate 2 refine W.seq ?_
 refine W.region (pE rfl (pE rfl (WO.nil (qs (W.block (W.seq (W.region ?_)))))));iterate 2 refine pE rfl ?_
 refine WO.nil (qs (an rfl (fun J=>?_) (fun J=>?_)));·
  refine W.seq (W.region (pE rfl (pu (aZ aa rfl rfl rfl rfl rfl rfl rfl rfl rfl) rfl ?_)));refine fP aa rfl rfl rfl rfl rfl rfl rfl rfl rfl rfl rfl rfl rfl rfl ?_;refine pE rfl (WO.nil (qs (W.ret (aJ (aA (QF.aB trivial rfl ?_))))));simp only[norm,aT,bh];simp_all[pP,pN,aY,cN,bq,bg,eL,aU,eJ,jK,gA];try exact if_neg (fun h=>by have:=I h.1;rw[this] at h;cases h.2)
 refine W.seq (W.region ?_);iterate 2 refine pE rfl ?_
 refine WO.nil (qs (an rfl (fun M=>?_) (fun M=>?_)));·
  refine W.seq (W.region (pE rfl (pu (aZ aa rfl rfl rfl rfl rfl rfl rfl rfl rfl) rfl ?_)));refine fP aa rfl rfl rfl rfl rfl rfl rfl rfl rfl rfl rfl rfl rfl rfl ?_;refine pE rfl (WO.nil (qs (W.ret (aJ (aA (QF.aB trivial rfl ?_))))));simp only[norm,aT,bh];simp_all[pP,pN,aY,cN,bq,bg,eL,aU,eJ,jK,gA];try exact if_neg (fun h=>by have:=I h.1;rw[this] at h;cases h.2)
 refine W.skip (bz (qs ?_));iterate 2 refine W.seq ?_
 refine W.region (pE rfl (pE rfl (pE rfl (WO.nil (qs (an rfl (fun N=>?_) (fun N=>?_)))))));·
  refine W.region ?_;iterate 2 refine pE rfl ?_
  refine pE rfl (pu (aZ aa rfl rfl rfl rfl rfl rfl rfl rfl rfl) rfl ?_);refine fP aa rfl rfl rfl rfl rfl rfl rfl rfl rfl rfl rfl rfl rfl rfl ?_;refine pE rfl (WO.nil (qs ?_));iterate 2 refine W.seq ?_
  apply aO;(case hb=>rfl);·repeat' first | refine bt rfl rfl rfl | refine aG rfl rfl ?_ | refine aD rfl rfl rfl rfl ?_ | refine pE rfl ?_ | refine WO.nil ?_ | (apply bj;(case hj=>rfl);(case hl=>rfl))
  refine qs (an rfl (fun I=>?_) (fun I=>?_));·
   refine W.region ?_;iterate 2 refine pE rfl ?_
   refine pE rfl (pu (aZ aa rfl rfl rfl rfl rfl rfl rfl rfl rfl) rfl ?_);refine fP aa rfl rfl rfl rfl rfl rfl rfl rfl rfl rfl rfl rfl rfl rfl ?_;refine pE rfl (WO.nil (qs (W.seq (W.region ?_))));iterate 2 refine pE rfl ?_
   refine WO.nil (qs (W.ret (QF.aB trivial rfl ?_)));simp only[norm,aT,bh];simp_all[pP,pN,aY,cN,bq,bg,eL,aU,eJ,jK,gA];try exact if_neg (fun h=>by have:=I h.1;rw[this] at h;cases h.2)
  refine W.skip (qs (W.seq (W.region ?_)));iterate 2 refine pE rfl ?_
  refine WO.nil (qs (W.ret (QF.aB trivial rfl ?_)));simp only[norm,aT,bh];simp_all[pP,pN,aY,cN,bq,bg,eL,aU,eJ,jK,gA];try exact if_neg (fun h=>by have:=I h.1;rw[this] at h;cases h.2)
 refine W.skip (qs ?_);iterate 2 refine W.seq ?_
 apply aO;(case hb=>rfl);·repeat' first | refine bt rfl rfl rfl | refine aG rfl rfl ?_ | refine aD rfl rfl rfl rfl ?_ | refine pE rfl ?_ | refine WO.nil ?_ | (apply bj;(case hj=>rfl);(case hl=>rfl))
 refine qs (an rfl (fun I=>?_) (fun I=>?_));·
  refine W.region ?_;iterate 2 refine pE rfl ?_
  refine pE rfl (pu (aZ aa rfl rfl rfl rfl rfl rfl rfl rfl rfl) rfl ?_);refine fP aa rfl rfl rfl rfl rfl rfl rfl rfl rfl rfl rfl rfl rfl rfl ?_;refine pE rfl (WO.nil (qs (W.seq (W.region ?_))));iterate 2 refine pE rfl ?_
  refine WO.nil (qs (W.ret (QF.aB trivial rfl ?_)));simp only[norm,aT,bh];simp_all[pP,pN,aY,cN,bq,bg,eL,aU,eJ,jK,gA];try exact if_neg (fun h=>by have:=I h.1;rw[this] at h;cases h.2)
 refine W.skip (qs (W.seq (W.region ?_)));iterate 2 refine pE rfl ?_
 refine WO.nil (qs (W.ret (QF.aB trivial rfl ?_)));simp only[norm,aT,bh];simp_all[pP,pN,aY,cN,bq,bg,eL,aU,eJ,jK,gA];try exact if_neg (fun h=>by have:=I h.1;rw[this] at h;cases h.2)
def ze (caps:List A):Prop:=(∀ bx k,caps.map (conv bx (k+3))=caps)∧iY caps=true
theorem yw (fid:Nat) (caps:List A) (I:ze caps) (p:ByteArray→Bool) (hp:∀ x:ByteArray,az Tryz.prog fid (.d (.v (.string x))::caps) (.d (.v (.bool (p x)))) 0) (l:List ByteArray) :
 az Tryz.prog 148 [.d (.sl (l.map sc)),.clo fid caps] (.d (.v (.int .i64 (idx (l.findIdx? p))))) 0:=by
 refine az.bl (n:=19) (ts:=[4]) Tryz.func148 (by kernel_rfl) rfl Tryz.ntmps148 Tryz.results148 rfl rfl fun C hC X=>?_;refine W.seq (W.region (pE rfl (WO.nil (qs ?_))));iterate 2 refine W.seq ?_
 refine W.region ?_;iterate 3 refine pE rfl ?_
 refine WO.nil (qs (W.block (W.len (t:=0) rfl rfl (fun hlen=>?_))));try simp only[List.length_map,Ex.aF] at hlen
 refine W.bF (ι:={x:Nat // match x with | k=>k≤l.length∧bX p l k})
  (fun x=>match x.1 with | k=>[(8,.d (.v (.int .i64 ((k:Nat):Int))))]) [(0,_),(1,_),(7,_)]
  (fun x=>match x.1 with | k=>[]) [] [] 0 (fun x=>match x.1 with | k=>l.length - k)
  [] ⟨0,?_⟩ rfl ?_ ⟨rfl,(by first | rfl | exact I.2),rfl,(by first | rfl | exact I.2),rfl,(by first | rfl | exact I.2),trivial⟩ ?_ trivial rfl ?_
 ·exact⟨Nat.zero_le _,bX.zero⟩
 ·repeat' first | exact trivial | refine⟨rfl,?_⟩
 ·repeat' exact trivial
 rintro⟨k,U,M⟩;show W _ _ _ _ _ ⟨[(8,.d (.v (.int .i64 ((k:Nat):Int)))),(0,_),(1,_),(7,_)],[],[],0⟩;refine W.seq (W.region (pE rfl (WO.nil (qs (W.seq (ca (l:=l) (k:=k) rfl (by simp[Ex.aF,aw]) U (fun x N hd O=>?_) (fun he hd=>?_)))))));·
  refine W.skip (qs (W.seq (W.block (W.seq (W.region ?_)))));iterate 2 refine pE rfl ?_
  refine WO.nil (qs (W.seq (W.region ?_)));iterate 3 refine pE rfl ?_
  refine pu (indexAddr aa rfl rfl rfl rfl rfl rfl (Int.natCast_nonneg _) (aV (by assumption)) rfl) rfl ?_;refine pE rfl (pu (ay rfl rfl (by rw[List.map_append,I.1 _ 2];rfl) (hp x) rfl) rfl ?_);refine WO.nil (qs (an rfl (fun J=>?_) (fun J=>?_)));·
   refine W.seq (W.region ?_);iterate 2 refine pE rfl ?_
   refine WO.nil (qs (W.ret (aJ (aA (dV (aJ (aA (QF.aB trivial rfl ?_))))))));simp only[norm,aT];rw[M.found N J];rfl
  refine W.skip (bz (qs (W.region ?_)));iterate 2 refine pE rfl ?_
  refine WO.nil (W.bU [] ⟨k+1,?_⟩ ?_ rfl ?_ ⟨rfl,(by first | rfl | exact I.2),rfl,(by first | rfl | exact I.2),rfl,(by first | rfl | exact I.2),trivial⟩ ?_ trivial rfl);·exact⟨O,M.step N J⟩
  ·dsimp only;omega
  ·repeat' first | exact trivial | refine⟨aP (by assumption) (by assumption),?_⟩
  repeat' exact trivial
 refine W.exit (bb (be (ba (qs (W.seq (W.region (pE rfl (WO.nil (qs (W.ret (QF.aB trivial rfl ?_)))))))))));simp only[norm,aT];rw[M.end_ he];rfl
theorem rh (fid:Nat) (caps:List A) (I:ze caps) (p:ByteArray→Bool) (hp:∀ x:ByteArray,az Tryz.prog fid (.d (.v (.string x))::caps) (.d (.v (.bool (p x)))) 0) (l:List ByteArray) :
 az Tryz.prog 97 [.d (.sl (l.map sc)),.clo fid caps] (.d (.v (.bool (l.any p)))) 0:=by
 refine az.bl (n:=9) (ts:=[4]) Tryz.func97 (by kernel_rfl) rfl Tryz.ntmps97 Tryz.results97 rfl rfl fun C hC J=>?_;refine W.seq (W.region (pE rfl (WO.nil (qs (W.seq (W.region ?_))))));iterate 2 refine pE rfl ?_
 refine pu (ay (args:=[.d (.sl (l.map sc)),.clo fid caps]) rfl rfl (by simp[conv,I.1 _ 1]) (yw fid caps I p hp l) rfl) rfl ?_;iterate 2 refine pE rfl ?_
 refine WO.nil (qs (W.ret (QF.aB trivial rfl ?_)));simp only[norm,aT];rw[←iS]
abbrev obj (j:JV) (bad:Bool):List A:=[.d (ci j.op),.d (ci j.n),.d (cs j.s),.d (.sl (j.keys.map sc)),.d (.sl j.kc),.d (.v (.bool bad))]
theorem Bv (j:JV) (bad:Bool) (k:ByteArray):az Tryz.prog 98 [.d (.v (.string k)),.row [.row (obj j bad)]] (.d (.v (.bool (!j.keys.any fun x=>decide (k=x))))) 0:=by
 refine az.bl (n:=12) (ts:=[3]) Tryz.func98 (by kernel_rfl) rfl Tryz.ntmps98 Tryz.results98 rfl rfl fun C hC I=>?_;refine W.seq (W.region (pE rfl (WO.nil (qs (W.seq (W.region (pE rfl ?_)))))));iterate 3 refine pE rfl ?_
 refine pE rfl (pE rfl (pu (ay rfl rfl rfl (wj ..) rfl) rfl ?_));iterate 2 refine pE rfl ?_
 refine WO.nil (qs (W.ret (QF.aB trivial rfl ?_)));rfl
end Go.Proofs.YtpiaiiopakafhaaGreatDoor
namespace Go.Proofs.YtpiaiiopakafhaaGreatDoor
open Go.Ab Go.Tb
set_option maxRecDepth 10000
set_option maxHeartbeats 1000000
attribute [local irreducible] W WO Pu QS QB QL QF QV bu CH QE
theorem gZ (j:JV) (bad:Bool) (key:ByteArray) (op:Int):bp Tryz.prog 55 [.ptr 0 0,.d (.v (.string key)),.d (.v (.int .i64 op))] [obj j bad] 0 (.ag (bc j key op).c) [obj j (bad || dp j key op)] 0:=by
 refine bp.cZ aa (n:=31) (rs:=[.cell 6 46]) Tryz.func55 (by kernel_rfl) rfl Tryz.ntmps55 Tryz.results55 rfl rfl fun C hC M=>?_;refine W.seq (W.region (aL aa rfl rfl rfl (WO.nil (qs (W.seq (W.region ?_))))));iterate 3 refine pE rfl ?_
 refine pE rfl (pE rfl (pu (ay rfl rfl rfl (CW j key) rfl) rfl ?_));iterate 3 refine pE rfl ?_
 refine aL aa rfl rfl rfl (ax aa rfl rfl rfl rfl rfl rfl rfl rfl (pE rfl (WO.nil (qs ?_))));iterate 2 refine W.seq ?_
 apply aO;(case hb=>rfl);·repeat' first | refine bt rfl rfl rfl | refine aG rfl rfl ?_ | refine aD rfl rfl rfl rfl ?_ | refine pE rfl ?_ | refine WO.nil ?_ | (apply bj;(case hj=>rfl);(case hl=>rfl))
 refine qs (an rfl (fun I=>?_) (fun I=>?_));·
  obtain⟨hb,J⟩:=AN I;rw[hb,J,Bool.or_true];refine W.seq (W.region ?_);iterate 3 refine pE rfl ?_
  refine ax aa rfl rfl rfl rfl rfl rfl rfl rfl (WO.nil (qs (W.seq (W.region (pu (build aa rfl rfl rfl rfl) rfl ?_)))));try refine gG 29 rfl rfl rfl ?_
  refine ax aa rfl rfl rfl rfl rfl rfl rfl rfl (WO.nil (qs (W.ret (aA (b4.end aa [] trivial rfl rfl rfl rfl ?_ ?_)))));·exact⟨rfl,trivial⟩
  rfl
 obtain⟨hb,J⟩:=CX I;rw[hb,J,Bool.or_false];refine W.skip (qs (W.seq (W.region (pE rfl (ax aa rfl rfl rfl rfl rfl rfl rfl rfl (WO.nil (qs (W.ret (b4.end aa [] trivial rfl rfl rfl rfl ?_ ?_)))))))));·exact⟨rfl,trivial⟩
 rfl
theorem rQ (j:JV) (bad:Bool):bp Tryz.prog 51 [.ptr 0 0] [obj j bad] 0 (.tup [.d (ci (bc j bq 3).n),.d (cs (bc j cN 4).s)]) [obj j (bD j bad)] 0:=by
 refine bp.cZ aa (n:=23) (rs:=[.tmp 2,.tmp 3]) Tryz.func51 (by kernel_rfl) rfl Tryz.ntmps51 Tryz.results51 rfl rfl fun C hC I=>?_;refine W.seq (W.region ?_);iterate 2 refine pE rfl ?_
 refine WO.nil (qs (W.seq (W.region (pE rfl (aE [0] [] rfl rfl rfl rfl rfl ((gZ j bad bq 3)) rfl rfl (by rfl) (by rfl) rfl rfl rfl rfl ?_)))));iterate 2 refine pE rfl ?_
 refine WO.nil (qs (W.seq (W.region ?_)));iterate 4 refine pE rfl ?_
 refine pE rfl (pE rfl (kC rfl rfl (fun g13=>?_) (fun g13=>?_)));·
  have hb:bD j bad=(true || dp j cN 4):=by unfold bD;rw[show(bad || dp j bq 3)=true from g13];rfl
  rw[hb];iterate 2 refine aD rfl rfl rfl rfl ?_
  iterate 3 refine pE rfl ?_
  refine ax aa rfl rfl rfl rfl rfl rfl rfl rfl (WO.nil (qs (W.seq (W.region ?_))));iterate 2 refine pE rfl ?_
  refine aE [0] [] rfl rfl rfl rfl rfl ((gZ j _ cN 4)) rfl rfl (by rfl) (by rfl) rfl rfl rfl rfl ?_;iterate 3 refine pE rfl ?_
  refine WO.nil (qs (W.ret (b4.end aa [] trivial rfl rfl rfl rfl ?_ ?_)));·exact⟨rfl,trivial⟩
  rfl
 have hb:bD j bad=(decide ((bc j bq 3).n < 0) || dp j cN 4):=by unfold bD;rw[show(bad || dp j bq 3)=false from g13];rfl
 rw[hb];refine aG rfl rfl (pE rfl (aG rfl rfl ?_));iterate 4 refine pE rfl ?_
 refine ax aa rfl rfl rfl rfl rfl rfl rfl rfl (WO.nil (qs (W.seq (W.region ?_))));iterate 2 refine pE rfl ?_
 refine aE [0] [] rfl rfl rfl rfl rfl ((gZ j _ cN 4)) rfl rfl (by rfl) (by rfl) rfl rfl rfl rfl ?_;iterate 3 refine pE rfl ?_
 refine WO.nil (qs (W.ret (b4.end aa [] trivial rfl rfl rfl rfl ?_ ?_)));·exact⟨rfl,trivial⟩
 rfl
theorem rD (j:JV) (bad:Bool) (l:List ByteArray):az Tryz.prog 57 [.row (obj j bad),.d (.sl (l.map sc))] (.d (.v (.bool (fq j l)))) 0:=by
 refine az.bl (n:=20) (ts:=[4]) Tryz.func57 (by kernel_rfl) rfl Tryz.ntmps57 Tryz.results57 rfl rfl fun C hC I=>?_;refine W.seq (W.region (cw rfl rfl rfl (pE rfl (WO.nil (qs (W.seq ?_))))));apply aO;(case hb=>rfl);·repeat' first | refine bt rfl rfl rfl | refine aG rfl rfl ?_ | refine aD rfl rfl rfl rfl ?_ | refine pE rfl ?_ | refine pu (ay rfl rfl rfl (rh _ [.row [.row (obj j bad)]] ⟨fun _ _=>rfl,rfl⟩ _ (Bv j bad) l) rfl) rfl ?_ | refine WO.nil ?_ | (apply bj;(case hj=>rfl);(case hl=>rfl))
 refine qs (W.ret (QF.aB trivial rfl ?_));show A.d (.v (.bool _))=A.d (.v (.bool _));unfold fq;rw[List.length_map,List.length_map];congr 3;simp only[cond_eq_ite];by_cases h:j.keys.length=l.length <;> simp[h] <;> omega
end Go.Proofs.YtpiaiiopakafhaaGreatDoor
namespace Go.Proofs.YtpiaiiopakafhaaGreatDoor
open Go.Ab Go.Tb
set_option maxRecDepth 10000
set_option maxHeartbeats 1000000
attribute [local irreducible] W WO Pu QS QB QL QF QV bu CH QE
theorem uK {l:List JV} {k:Nat} {x:JV} (h:l[k]? = some x):gh (l.take (k+1))=(gh (l.take k) || !decide (x.op=4)):=by unfold gh;rw[List.take_add_one,h];simp
theorem Av (j:JV) (bad:Bool) (hs:(bc j aU 5).kids.length≤1000000000):bp Tryz.prog 56 [.ptr 0 0] [obj j bad] 0 (.d (.sl ((rj j).map sc))) [obj j ((bad || dp j aU 5) || gh (bc j aU 5).kids)] 0:=by
 refine bp.cZ aa (n:=33) (rs:=[.tmp 2]) Tryz.func56 (by kernel_rfl) rfl Tryz.ntmps56 Tryz.results56 rfl rfl fun C hC hG=>?_;refine W.seq (W.region (pE rfl (WO.nil (qs (W.seq (W.region (pE rfl (WO.nil (qs ?_)))))))));iterate 2 refine W.seq ?_
 refine W.region (pE rfl (aE [0] [] rfl rfl rfl rfl rfl ((gZ j bad aU 5)) rfl rfl (by rfl) (by rfl) rfl rfl rfl rfl ?_));iterate 3 refine pE rfl ?_
 refine WO.nil (qs (W.block (pd (d:=3) rfl rfl ?_)));refine W.len (t:=8) rfl rfl (fun hlen=>?_);try simp only[List.length_map,Ex.aF] at hlen
 refine W.bF (ι:={x:Nat×Bool×List ByteArray // match x with | (k,b,out)=>k≤(bc j aU 5).kids.length∧out=((bc j aU 5).kids.take k).map JV.s∧b=((bad || dp j aU 5) || gh ((bc j aU 5).kids.take k))})
  (fun x=>match x.1 with | (k,b,out)=>[(0,.ptr 0 0),(3,.own 1 (out.map sc)),(10,.d (.v (.int .i64 ((k:Nat):Int))))]) [(8,_),(9,_)]
  (fun x=>match x.1 with | (k,b,out)=>[(0,obj j b)]) [] [1] 2 (fun x=>match x.1 with | (k,b,out)=>(bc j aU 5).kids.length - k)
  [0,2] ⟨(0,bad || dp j aU 5,[]),?_⟩ rfl ?_ ⟨rfl,rfl,rfl,rfl,trivial⟩ ?_ trivial rfl ?_
 ·exact⟨Nat.zero_le _,rfl,by simp[gh]⟩
 ·repeat' first | exact trivial | refine⟨rfl,?_⟩
 ·repeat' first | exact trivial | refine⟨rfl,?_⟩
 rintro⟨⟨k,b,out⟩,U,I,M⟩;show W _ _ _ _ _ ⟨[(0,.ptr 0 0),(3,.own 1 (out.map sc)),(10,.d (.v (.int .i64 ((k:Nat):Int)))),(8,_),(9,_)],[(0,obj j b)],[1],2⟩;have X:(bc j aU 5).kids.length≤maxLen:=by rw[←JV.aF];exact hlen
 have Z:out.length≤(bc j aU 5).kids.length:=by rw[I,List.length_map,List.length_take];exact Nat.min_le_right _ _
 refine W.seq (W.region (pE rfl (WO.nil (qs (W.seq (ca (l:=(bc j aU 5).kids) (k:=k) rfl (by simp[JV.aF]) U (fun x J hd N=>?_) (fun he hd=>?_)))))));·
  refine W.skip (qs (W.seq (W.block (W.seq (W.region (pu (indexAddr (l:=x.c) aa rfl rfl rfl rfl rfl rfl (Int.natCast_nonneg _) (JV.zu J) rfl) rfl ?_))))));refine pE rfl (aL aa rfl rfl rfl (ax aa rfl rfl rfl rfl rfl rfl rfl rfl (WO.nil (qs (W.seq (W.region ?_))))));iterate 4 refine pE rfl ?_
  refine pE rfl (pE rfl (kC rfl rfl (fun g19=>?_) (fun g19=>?_)));·
   let O:Bool:=true;iterate 3 refine aD rfl rfl rfl rfl ?_
   iterate 3 refine pE rfl ?_
   refine ax aa rfl rfl rfl rfl rfl rfl rfl rfl (WO.nil (qs (W.region ?_)));iterate 2 refine pE rfl ?_
   refine pE rfl (pu (aZ aa rfl rfl rfl rfl rfl rfl rfl rfl rfl) rfl ?_);refine eu (a:=x.s) aa rfl rfl rfl rfl rfl rfl rfl rfl rfl rfl (fun _=>rfl) (by show(out.length+1)*16≤_;omega) ?_;refine pE rfl (WO.nil (bz (qs (W.region ?_))));iterate 2 refine pE rfl ?_
   refine WO.nil (W.bU [0,3] ⟨(k+1,O,out++[x.s]),?_⟩ ?_ rfl ?_ ⟨rfl,rfl,rfl,rfl,trivial⟩ ?_ trivial rfl);·exact⟨N,by rw[List.take_add_one,J,List.map_append,I];rfl,by rw[uK J,←Bool.or_assoc,←M,g19];rfl⟩
   ·dsimp only;omega
   ·repeat' first | exact trivial | refine⟨rfl,?_⟩ | refine⟨aP (by assumption) (by assumption),?_⟩
   repeat' first | exact trivial | refine⟨rfl,?_⟩
  let O:Bool:=!decide (x.op=4);refine aG rfl rfl (pE rfl (aG rfl rfl (pE rfl (aG rfl rfl ?_))));iterate 4 refine pE rfl ?_
  refine ax aa rfl rfl rfl rfl rfl rfl rfl rfl (WO.nil (qs (W.region ?_)));iterate 2 refine pE rfl ?_
  refine pE rfl (pu (aZ aa rfl rfl rfl rfl rfl rfl rfl rfl rfl) rfl ?_);refine eu (a:=x.s) aa rfl rfl rfl rfl rfl rfl rfl rfl rfl rfl (fun _=>rfl) (by show(out.length+1)*16≤_;omega) ?_;refine pE rfl (WO.nil (bz (qs (W.region ?_))));iterate 2 refine pE rfl ?_
  refine WO.nil (W.bU [0,3] ⟨(k+1,O,out++[x.s]),?_⟩ ?_ rfl ?_ ⟨rfl,rfl,rfl,rfl,trivial⟩ ?_ trivial rfl);·exact⟨N,by rw[List.take_add_one,J,List.map_append,I];rfl,by rw[uK J,←Bool.or_assoc,←M,g19];rfl⟩
  ·dsimp only;omega
  ·repeat' first | exact trivial | refine⟨rfl,?_⟩ | refine⟨aP (by assumption) (by assumption),?_⟩
  repeat' first | exact trivial | refine⟨rfl,?_⟩
 rw[he,List.take_length] at M;rw[←M];refine W.exit (bb (be (ba (qs (W.seq (W.region ?_))))));iterate 2 refine pE rfl ?_
 refine WO.nil (qs (W.ret (b4.end aa [] trivial rfl rfl rfl rfl ?_ ?_)));·exact⟨rfl,trivial⟩
 rw[I,he,List.take_length];rfl
end Go.Proofs.YtpiaiiopakafhaaGreatDoor
namespace Go.Proofs.YtpiaiiopakafhaaGreatDoor
open Go.Ab Go.Tb
set_option maxRecDepth 10000
set_option maxHeartbeats 1000000
attribute [local irreducible] W WO Pu QS QB QL QF QV bu CH QE
abbrev nQ:List A:=[.d (ci 0),.d (ci 0),.d (cs (B #[])),.d (ci 0),.d (ci 0),.d (.v (.slice none 0 0))]
abbrev F1 (j:JV):Nat→Bool
 | 0=>bD j (bM j)
 | _+1=>dP j (bD j (bM j))
abbrev vg (j:JV) (f:Fm) (k:Nat):List (Nat×List A):=[(2,obj j (F1 j k)),(5,f.c.map A.d),(4,[.d (cs (bc j cN 4).s)]),(1,nQ),(0,j.c.map A.d)]
abbrev jJ (j:JV) (f:Fm):gX:=⟨vg j f,fun k=>(6,nQ)::vg j f k,fun _=>[],fun k=>7+k,fun k=>[0,1,2,3,4,5,7+k]++(List.range k).map (7+·),6,nQ,[3],6,fun _=>False⟩
theorem wA {ph:ByteArray} (h:idx (e8.findIdx? fun f=>decide (f.ph=ph)) < 0):iP ph=none:=by
 unfold iP
 cases hi:e8.findIdx? fun f=>decide (f.ph=ph) with
 | none=>rfl
 | some i=>rw[hi] at h;simp[idx] at h;omega
theorem wD {ph:ByteArray} (h:¬ idx (e8.findIdx? fun f=>decide (f.ph=ph)) < 0):∃ (i:Nat) (f:Fm),idx (e8.findIdx? fun f=>decide (f.ph=ph))=(i:Int)∧e8[i]? = some f∧iP ph=some f:=by
 cases hi:e8.findIdx? fun f=>decide (f.ph=ph) with
 | none=>rw[hi] at h;simp[idx] at h
 | some i=>obtain⟨hl,_⟩:=List.findIdx?_eq_some_iff_getElem.1 hi;refine⟨i,e8[i],rfl,by simp[hl],?_⟩;unfold iP;rw[hi];simp[hl]
set_option maxHeartbeats 1000000 in
theorem A5 (j:JV) (hs:(bc j aU 5).kids.length≤1000000000):az Tryz.prog 19 [.ag j.c] (.tup [.d (ci (bm j).1),.ag (bm j).2.1.c,.d (ci (bm j).2.2)]) 0:=by
 refine az.cZ aa (n:=114) (rs:=[.tmp 2,.cell 3 50,.tmp 4]) Tryz.func19 (by kernel_rfl) rfl Tryz.ntmps19 Tryz.results19 rfl fun C hC hG=>?_;refine W.seq (W.region (cw rfl rfl rfl (pE rfl (aL aa rfl rfl rfl (pE rfl (WO.nil (qs ?_)))))));iterate 2 refine W.seq ?_
 refine W.region (pE rfl (pu (ay rfl rfl rfl (sR j) rfl) rfl ?_));refine pE rfl (WO.nil (qs (W.seq (W.region ?_))));iterate 2 refine pE rfl ?_
 refine WO.nil (qs (an rfl (fun Z=>?_) (fun Z=>?_)));·
  have J:bm j=(0,nN,aX j 1):=by unfold bm;rw[if_pos (by simpa using Z)]
  refine W.seq (W.region (pu (jG (build aa rfl rfl rfl rfl) rfl) rfl ?_));iterate 2 refine pE rfl ?_
  refine ax aa rfl rfl rfl rfl rfl rfl rfl rfl (pE rfl (WO.nil (qs (W.ret (aA (QV.aB aa trivial rfl ?_))))));rw[J];rfl
 have aj:aX j 1=0:=by simpa using Z
 refine W.skip (qs (W.seq (W.region (pE rfl (pE rfl (pE rfl (pE rfl (pu (build aa rfl rfl rfl rfl) rfl ?_))))))));refine cw rfl rfl rfl (pE rfl (WO.nil (qs (W.seq (W.region (pE rfl (aE [2] [] rfl rfl rfl rfl rfl ((rQ j (bM j))) rfl rfl (by rfl) (by rfl) rfl rfl rfl rfl ?_)))))));iterate 3 refine pE rfl ?_
 refine aL aa rfl rfl rfl (pE rfl (ax aa rfl rfl rfl rfl rfl rfl rfl rfl (WO.nil (qs (W.seq (W.region (pu (ay rfl rfl rfl (lp ..) rfl) rfl ?_)))))));refine pE rfl (pu (ay rfl rfl rfl (qQ _ _ ⟨fun _ _=>rfl,rfl⟩ _ (C2 (bc j cN 4).s) e8) rfl) rfl ?_);refine pE rfl (WO.nil (qs ?_));iterate 2 refine W.seq ?_
 apply aO;(case hb=>rfl);·
  iterate 3 refine pE rfl ?_
  refine pE rfl (pE rfl ?_);apply eY;(case hj=>rfl);(case hl=>rfl);·
   intro a6;iterate 2 refine aD rfl rfl rfl rfl ?_
   refine pE rfl (WO.nil (bt rfl rfl rfl))
  intro a6;refine aG rfl rfl (pE rfl (aG rfl rfl ?_));iterate 2 refine pE rfl ?_
  refine WO.nil (bt rfl rfl rfl)
 refine qs (an rfl (fun I=>?_) (fun I=>?_));·
  have J:bm j=(0,nN,10):=by
   unfold bm;rw[if_neg (by rw[aj];simp)]
   cases hb:bD j (bM j) with
   | true=>rfl
   | false=>rw[hb] at I;rw[wA (by simpa using I)];rfl
  refine W.seq (W.region (pu (jG (build aa rfl rfl rfl rfl) rfl) rfl ?_));refine pE rfl (ax aa rfl rfl rfl rfl rfl rfl rfl rfl (pE rfl (WO.nil (qs (W.ret (aA (QV.aB aa trivial rfl ?_)))))));rw[J];rfl
 have a1:bD j (bM j)=false:=by
  cases hb:bD j (bM j) with
  | true=>rw[hb] at I;cases I
  | false=>rfl
 obtain⟨i,f,hi,hf,a7⟩:=wD (ph:=(bc j cN 4).s) (by rw[a1] at I;simpa using I);have hE:bm j=if (bif vB j f (bD j (bM j)) then true else !fq j (bh f (fO j f)))=true then (0,nN,10) else if cn (kv j f)≠0 then (0,nN,cn (kv j f)) else ((bc j bq 3).n,kv j f,0):=by unfold bm;rw[if_neg (by rw[aj];simp),if_neg (by rw[a1];simp),a7]
 rw[hi];refine W.skip (qs (W.seq (W.region (pu (ay rfl rfl rfl (lp ..) rfl) rfl ?_))));refine pE rfl (pu (indexAddr (l:=f.c) aa rfl rfl rfl rfl rfl rfl (Int.natCast_nonneg _) (aV hf) rfl) rfl ?_);refine pE rfl (aL aa rfl rfl rfl (ax aa rfl rfl rfl rfl rfl rfl rfl rfl (WO.nil (qs (W.seq (W.lN aa (jJ j f) false 7 (by kernel_rfl) (by kernel_rfl) rfl rfl (fun _ _ h=>h.elim) ?hok (lS.le (f':=vg j f 0) ⟨rfl,rfl,rfl,rfl,rfl,trivial⟩) rfl rfl ?hcd))))));case hok=>exact fun _=>⟨by repeat' (first | exact trivial | exact rfl | refine And.intro ?_ ?_),by repeat' (first | exact trivial | exact rfl | refine And.intro ?_ ?_)⟩
 refine' sA ?p0 rfl rfl rfl (by kernel_rfl) rfl ?h0;case p0=>refine⟨?_,?_,?_,?_⟩ <;> intro M <;> first | (refine⟨ev aa rfl,?_⟩;intro _;rfl) | exact(ab M (by kernel_rfl)).elim
 case' h0=>skip
 refine' sA ?p1 rfl rfl rfl (by kernel_rfl) rfl ?h1;case p1=>refine⟨?_,?_,?_,?_⟩ <;> intro M <;> first | (refine⟨ev aa rfl,?_⟩;intro _;rfl) | exact(ab M (by kernel_rfl)).elim
 case' h1=>skip
 refine' sA ?p2 rfl rfl rfl (by kernel_rfl) rfl ?h2;case p2=>refine⟨?_,?_,?_,?_⟩ <;> intro M <;> first | (refine⟨ev aa rfl,?_⟩;intro _;rfl) | exact(ab M (by kernel_rfl)).elim
 case' h2=>skip
 refine' v7 ?x3 rfl rfl rfl (by kernel_rfl) ?r3 rfl ?h3;case x3=>
  intro b hb g;cases b;·
   refine aE [2] [] rfl rfl rfl rfl rfl (gZ j (bD j (bM j)) eL 3) rfl rfl (by rfl) (by rfl) rfl rfl rfl rfl ?_;refine Al (vg j f 1) ⟨rfl,rfl,rfl,rfl,rfl,trivial⟩ ?_;refine WO.nil ?_;exact⟨rfl,rfl⟩
  refine aE [2] [] rfl rfl rfl rfl rfl (gZ j (bD j (bM j)) eL 3) rfl rfl (by rfl) (by rfl) rfl rfl rfl rfl ?_;refine Al ((6,nQ)::vg j f 1) ⟨rfl,rfl,rfl,rfl,rfl,rfl,trivial⟩ ?_;refine WO.nil ?_;exact⟨rfl,rfl⟩
 case r3=>intro _;rfl
 case' h3=>skip
 refine' sA ?p4 rfl rfl rfl (by kernel_rfl) rfl ?h4;case p4=>refine⟨?_,?_,?_,?_⟩ <;> intro M <;> first | (refine⟨ev aa rfl,?_⟩;intro _;rfl) | exact(ab M (by kernel_rfl)).elim
 case' h4=>skip
 refine' sA ?p5 rfl rfl rfl (by kernel_rfl) rfl ?h5;case p5=>refine⟨?_,?_,?_,?_⟩ <;> intro M <;> first | (refine⟨Pu.oK (build aa rfl rfl rfl rfl) rfl,?_⟩;intro _;rfl) | exact(ab M (by kernel_rfl)).elim
 case' h5=>skip
 refine F3 rfl rfl rfl rfl rfl (by kernel_rfl) rfl ?_;refine CD.nil ?_ rfl;refine ax aa rfl rfl rfl rfl rfl rfl rfl rfl (WO.nil (qs ?_));iterate 2 refine W.seq ?_
 refine W.region (pE rfl (pE rfl (WO.nil (qs (W.nI [(3,.ptr 0 0),(6,.ptr 1 0),(10,.ptr 2 0),(11,.ptr 3 0)] [7] [(0,nQ),(1,obj j (dC j f (dP j (bD j (bM j))))),(2,f.c.map A.d),(3,[.d (ci (vm j)),.d (ci f.kind),.d (cs (ko j f)),.d (ci 0),.d (ci 0),.d (.sl [])])] [] [] 4 ?_ ?_)))));·
  refine an rfl (fun N=>?_) (fun N=>?_);·
   rw[show dC j f (dP j (bD j (bM j)))=(dP j (bD j (bM j)) || dp j bg 4) from if_pos N,show ko j f=(bc j bg 4).s from if_pos N];refine W.region (pE rfl (aE [2] [] rfl rfl rfl rfl rfl ((gZ j (dP j (bD j (bM j))) bg 4)) rfl rfl (by rfl) (by rfl) rfl rfl rfl rfl ?_));iterate 2 refine pE rfl ?_
   refine ax aa rfl rfl rfl rfl rfl rfl rfl rfl (WO.nil (dN [1,2,5,6] rfl ?_ ⟨rfl,rfl,trivial⟩ ?_ trivial rfl));·repeat' first | exact trivial | refine⟨rfl,?_⟩
   repeat' first | exact trivial | refine⟨rfl,?_⟩
  rw[show dC j f (dP j (bD j (bM j)))=dP j (bD j (bM j)) from if_neg (by rw[N];simp),show ko j f=aY from if_neg (by rw[N];simp)];refine W.skip (dN [1,2,5,6] rfl ?_ ⟨rfl,rfl,trivial⟩ ?_ trivial rfl);·repeat' first | exact trivial | refine⟨rfl,?_⟩
  repeat' first | exact trivial | refine⟨rfl,?_⟩
 refine qs ?_;iterate 2 refine W.seq ?_
 refine W.region (pE rfl (pE rfl (pE rfl (WO.nil (qs (W.nI [(3,.ptr 0 0),(6,.ptr 1 0),(10,.ptr 2 0),(11,.ptr 3 0)] [7] [(0,nQ),(1,obj j (fJ j f (dC j f (dP j (bD j (bM j)))))),(2,f.c.map A.d),(3,[.d (ci (vm j)),.d (ci f.kind),.d (cs (ko j f)),.d (ci (nO j f)),.d (ci 0),.d (.sl [])])] [] [] 4 ?_ ?_))))));·
  refine an rfl (fun ad=>?_) (fun ad=>?_);·
   have hn:¬ f.n=aY:=by simpa [aY] using ad
   rw[show fJ j f (dC j f (dP j (bD j (bM j))))=(dC j f (dP j (bD j (bM j))) || dp j f.n 3) from if_neg hn,show nO j f=(bc j f.n 3).n from if_neg hn];refine W.region ?_;iterate 2 refine pE rfl ?_
   refine pE rfl (aE [1] [] rfl rfl rfl rfl rfl ((gZ j (dC j f (dP j (bD j (bM j)))) f.n 3)) rfl rfl (by rfl) (by rfl) rfl rfl rfl rfl ?_);iterate 2 refine pE rfl ?_
   refine ax aa rfl rfl rfl rfl rfl rfl rfl rfl (WO.nil (dN [0,1,2,3] rfl ?_ ⟨rfl,rfl,trivial⟩ ?_ trivial rfl));·repeat' first | exact trivial | refine⟨rfl,?_⟩
   repeat' first | exact trivial | refine⟨rfl,?_⟩
  have hn:f.n=aY:=by simpa [aY] using ad
  rw[show fJ j f (dC j f (dP j (bD j (bM j))))=dC j f (dP j (bD j (bM j))) from if_pos hn,show nO j f=0 from if_pos hn];refine W.skip (dN [0,1,2,3] rfl ?_ ⟨rfl,rfl,trivial⟩ ?_ trivial rfl);·repeat' first | exact trivial | refine⟨rfl,?_⟩
  repeat' first | exact trivial | refine⟨rfl,?_⟩
 refine qs (W.seq ?_);apply aO;(case hb=>rfl);·
  refine pE rfl (pE rfl ?_);iterate 2 refine pE rfl ?_
  apply eY;(case hj=>rfl);(case hl=>rfl);·
   intro a8;iterate 3 refine aD rfl rfl rfl rfl ?_
   iterate 2 refine pE rfl ?_
   refine WO.nil (bt rfl rfl rfl)
  intro a8;refine aG rfl rfl (pE rfl (aG rfl rfl (pE rfl (aG rfl rfl ?_))));iterate 3 refine pE rfl ?_
  refine WO.nil (bt rfl rfl rfl)
 refine qs ?_;iterate 2 refine W.seq ?_
 apply aO;(case hb=>rfl);·
  refine pE rfl (pE rfl ?_);iterate 2 refine pE rfl ?_
  apply eY;(case hj=>rfl);(case hl=>rfl);·
   intro b0;refine aG rfl rfl ?_;iterate 2 refine pE rfl ?_
   refine WO.nil (bt rfl rfl rfl)
  intro b0;refine aD rfl rfl rfl rfl (pE rfl (WO.nil (bt rfl rfl rfl)))
 refine qs (W.nI [(3,.ptr 0 0),(6,.ptr 1 0),(10,.ptr 2 0),(11,.ptr 3 0)] [7,12] [(0,nQ),(1,obj j (ja j f (fO j f) (fJ j f (dC j f (dP j (bD j (bM j))))))),(2,f.c.map A.d),(3,[.d (ci (vm j)),.d (ci f.kind),.d (cs (ko j f)),.d (ci (nO j f)),.d (ci (mO j f (fO j f))),.d (.sl [])])] [] [] 4 ?_ ?_);·
  refine an rfl (fun ai=>?_) (fun ai=>?_);·
   have hm:lX f (fO j f)=true:=ai;rw[show ja j f (fO j f) (fJ j f (dC j f (dP j (bD j (bM j)))))=(fJ j f (dC j f (dP j (bD j (bM j)))) || dp j f.m 3) from if_pos hm,show mO j f (fO j f)=(bc j f.m 3).n from if_pos hm];refine W.region ?_;iterate 2 refine pE rfl ?_
   refine pE rfl (aE [1] [] rfl rfl rfl rfl rfl ((gZ j (fJ j f (dC j f (dP j (bD j (bM j))))) f.m 3)) rfl rfl (by rfl) (by rfl) rfl rfl rfl rfl ?_);iterate 2 refine pE rfl ?_
   refine ax aa rfl rfl rfl rfl rfl rfl rfl rfl (WO.nil (dN [0,1,2,3] rfl ?_ ⟨rfl,rfl,rfl,rfl,trivial⟩ ?_ trivial rfl));·repeat' first | exact trivial | refine⟨rfl,?_⟩
   repeat' first | exact trivial | refine⟨rfl,?_⟩
  have hm:¬ lX f (fO j f)=true:=by rw[show lX f (fO j f)=false from ai];simp
  rw[show ja j f (fO j f) (fJ j f (dC j f (dP j (bD j (bM j)))))=fJ j f (dC j f (dP j (bD j (bM j)))) from if_neg hm,show mO j f (fO j f)=0 from if_neg hm];refine W.skip (dN [0,1,2,3] rfl ?_ ⟨rfl,rfl,rfl,rfl,trivial⟩ ?_ trivial rfl);·repeat' first | exact trivial | refine⟨rfl,?_⟩
  repeat' first | exact trivial | refine⟨rfl,?_⟩
 refine qs ?_;iterate 2 refine W.seq ?_
 refine W.region (pE rfl (pE rfl (WO.nil (qs (W.nI [(3,.ptr 0 0),(6,.ptr 1 0),(10,.ptr 2 0),(11,.ptr 3 0)] [7,12] [(0,nQ),(1,obj j (nG j f (ja j f (fO j f) (fJ j f (dC j f (dP j (bD j (bM j)))))))),(2,f.c.map A.d),(3,[.d (ci (vm j)),.d (ci f.kind),.d (cs (ko j f)),.d (ci (nO j f)),.d (ci (mO j f (fO j f))),.d (.sl (y8 (xh j f)))])] [] [] 4 ?_ ?_)))));·
  refine an rfl (fun O=>?_) (fun O=>?_);·
   rw[show nG j f (ja j f (fO j f) (fJ j f (dC j f (dP j (bD j (bM j))))))=((ja j f (fO j f) (fJ j f (dC j f (dP j (bD j (bM j))))) || dp j aU 5) || gh (bc j aU 5).kids) from if_pos O,show xh j f=rj j from if_pos O];refine W.region (pE rfl (aE [1] [] rfl rfl rfl rfl rfl ((Av j (ja j f (fO j f) (fJ j f (dC j f (dP j (bD j (bM j)))))) hs)) rfl rfl (by rfl) (by rfl) rfl rfl rfl rfl ?_));refine pE rfl (ax aa rfl rfl rfl rfl rfl rfl rfl rfl (WO.nil (dN [0,1,2,3] rfl ?_ ⟨rfl,rfl,rfl,rfl,trivial⟩ ?_ trivial rfl)));·repeat' first | exact trivial | refine⟨rfl,?_⟩
   repeat' first | exact trivial | refine⟨rfl,?_⟩
  rw[show nG j f (ja j f (fO j f) (fJ j f (dC j f (dP j (bD j (bM j))))))=ja j f (fO j f) (fJ j f (dC j f (dP j (bD j (bM j))))) from if_neg (by rw[O];simp),show xh j f=[] from if_neg (by rw[O];simp)];refine W.skip (dN [0,1,2,3] rfl ?_ ⟨rfl,rfl,rfl,rfl,trivial⟩ ?_ trivial rfl);·repeat' first | exact trivial | refine⟨rfl,?_⟩
  repeat' first | exact trivial | refine⟨rfl,?_⟩
 refine qs ?_;iterate 2 refine W.seq ?_
 have hB:vB j f (bD j (bM j))=nG j f (ja j f (fO j f) (fJ j f (dC j f (dP j (bD j (bM j)))))):=rfl;generalize nG j f (ja j f (fO j f) (fJ j f (dC j f (dP j (bD j (bM j))))))=B at hB ⊢;apply aO;(case hb=>rfl);·
  iterate 3 refine pE rfl ?_
  refine pE rfl (pE rfl ?_);apply eY;(case hj=>rfl);(case hl=>rfl);·
   intro b2;iterate 6 refine aD rfl rfl rfl rfl ?_
   refine pE rfl (WO.nil (bt rfl rfl rfl))
  intro b2;refine aG rfl rfl (pE rfl (aG rfl rfl (pE rfl (aG rfl rfl (pE rfl (aG rfl rfl (pu (ay rfl rfl rfl (rY f (fO j f)) rfl) rfl ?_)))))));refine aG rfl rfl (pu (ay rfl rfl rfl (rD j B (bh f (fO j f))) rfl) rfl ?_);refine aG rfl rfl ?_;iterate 2 refine pE rfl ?_
  refine WO.nil (bt rfl rfl rfl)
 refine qs (an rfl (fun U=>?_) (fun U=>?_));·
  have J:bm j=(0,nN,10):=by rw[hE,hB,if_pos U]
  refine W.seq (W.region (pu (jG (build aa rfl rfl rfl rfl) rfl) rfl ?_));refine pE rfl (ax aa rfl rfl rfl rfl rfl rfl rfl rfl (pE rfl (WO.nil (qs (W.ret (aA (QV.aB aa trivial rfl ?_)))))));rw[J];rfl
 rw[hB,if_neg (by rw[show(bif B then true else !fq j (bh f (fO j f)))=false from U];simp)] at hE;refine W.skip (qs ?_);iterate 2 refine W.seq ?_
 refine W.region (pE rfl (pu (ay rfl rfl rfl (tQ (kv j f)) rfl) rfl ?_));refine pE rfl (WO.nil (qs (W.seq (W.region ?_))));iterate 2 refine pE rfl ?_
 refine WO.nil (qs (an rfl (fun X=>?_) (fun X=>?_)));·
  have J:bm j=(0,nN,cn (kv j f)):=by rw[hE,if_pos (by simpa using X)]
  refine W.seq (W.region (pu (jG (build aa rfl rfl rfl rfl) rfl) rfl ?_));iterate 2 refine pE rfl ?_
  refine ax aa rfl rfl rfl rfl rfl rfl rfl rfl (pE rfl (WO.nil (qs (W.ret (aA (QV.aB aa trivial rfl ?_))))));rw[J];rfl
 have J:bm j=((bc j bq 3).n,kv j f,0):=by rw[hE,if_neg (by simpa using X)]
 refine W.skip (qs (W.seq (W.xx aa 3 0 (by kernel_rfl) rfl rfl ?_)));refine qt rfl (ev aa rfl) rfl ?_;refine qt rfl (ev aa rfl) rfl ?_;refine qt rfl (ev aa rfl) rfl ?_;refine CE.nil ?_;refine ax aa rfl rfl rfl rfl rfl rfl rfl rfl (pE rfl (WO.nil (qs (W.ret (QV.aB aa trivial rfl ?_)))));rw[J];rfl
end Go.Proofs.YtpiaiiopakafhaaGreatDoor
namespace Go.Proofs.YtpiaiiopakafhaaGreatDoor
open Go.Ab Go.Tb
set_option maxRecDepth 10000
set_option maxHeartbeats 1000000
attribute [local irreducible] W WO Pu QS QB QL QF QV bu CH QE
theorem gN (s:ByteArray):az Tryz.prog 35 [.d (.v (.string s))] (.ag (tJ s).c) 0:=by refine az.cZ aa (n:=5) (rs:=[.cell 2 46]) Tryz.func35 (by kernel_rfl) rfl Tryz.ntmps35 Tryz.results35 rfl fun C hC I=>?_;refine W.seq (W.region (aL aa rfl rfl rfl (WO.nil (qs (W.seq (W.region (pE rfl (pu (jG (build aa rfl rfl rfl rfl) rfl) rfl ?_))))))));refine ax aa rfl rfl rfl rfl rfl rfl rfl rfl (WO.nil (qs (W.ret (QV.aB aa trivial rfl ?_))));rfl
theorem gU (n:Int):az Tryz.prog 36 [.d (ci n)] (.ag (nJ n).c) 0:=by refine az.cZ aa (n:=5) (rs:=[.cell 2 46]) Tryz.func36 (by kernel_rfl) rfl Tryz.ntmps36 Tryz.results36 rfl fun C hC I=>?_;refine W.seq (W.region (aL aa rfl rfl rfl (WO.nil (qs (W.seq (W.region (pE rfl (pu (jG (build aa rfl rfl rfl rfl) rfl) rfl ?_))))))));refine ax aa rfl rfl rfl rfl rfl rfl rfl rfl (WO.nil (qs (W.ret (QV.aB aa trivial rfl ?_))));rfl
abbrev w4:List A:=[.d (ci 0),.d (ci 0),.d (cs (B #[])),.d (.v (.slice none 0 0)),.d (.v (.slice none 0 0))]
theorem rA (id:Int) (e:Ev) (f:Fm) (hf:ir e.kind=some f) (hs:e.stack.length≤1000000):az Tryz.prog 37 [.d (ci id),.ag e.c] (.ag (ep f id e).c) 0:=by
 obtain⟨i,hi,a7⟩:=AZ hf;obtain⟨l,hl⟩:∃ l,l=bh f (fK f e):=⟨_,rfl⟩;have b2:l.length≤7:=hl▸sQ f _;refine az.cZ aa (n:=94) (rs:=[.cell 4 46]) Tryz.func37 (by kernel_rfl) rfl Tryz.ntmps37 Tryz.results37 rfl fun C hC hG=>?_;refine W.seq (W.region (cw rfl rfl rfl (aL aa rfl rfl rfl (WO.nil (qs (W.seq (W.region (pu (ay rfl rfl rfl (lp ..) rfl) rfl ?_))))))));refine pE rfl (pu (ay rfl rfl rfl (qQ _ [.row (e.c.map A.d)] ⟨fun _ _=>rfl,rfl⟩ _ (Aj e) e8) rfl) rfl ?_);refine pE rfl (WO.nil (qs (W.seq ?_)));rw[hi];refine W.region (pu (ay rfl rfl rfl (lp ..) rfl) rfl ?_);refine pE rfl (pu (indexAddr (l:=f.c) aa rfl rfl rfl rfl rfl rfl (Int.natCast_nonneg _) (aV a7) rfl) rfl ?_);refine pE rfl (aL aa rfl rfl rfl (ax aa rfl rfl rfl rfl rfl rfl rfl rfl (WO.nil (qs (W.seq (W.nI [(3,.ptr 0 0),(4,.ptr 1 0),(6,.ptr 2 0),(7,.ptr 3 0)] [0] [(0,e.c.map A.d),(1,w4),(2,f.c.map A.d),(3,[.d (ci 6),.d (ci 0),.d (cs aY),.d (.sl (l.map sc)),.d (.v (.slice none 0 0))])] [] [] 4 ?_ ?_))))));·
  refine W.region (pE rfl (pE rfl (pE rfl ?_)));iterate 2 refine pE rfl ?_
  refine kC rfl rfl (fun g24=>?_) (fun g24=>?_);·
   have O:l=bh f true:=by rw[hl];unfold fK;rw[show(!decide (f.ph=pS))=true from g24];rfl
   rw[O];iterate 3 refine aD rfl rfl rfl rfl ?_
   refine pE rfl (pu (ay rfl rfl rfl (rY f _) rfl) rfl ?_);refine pu (build aa rfl rfl rfl rfl) rfl ?_;refine aL aa rfl rfl rfl (ax aa rfl rfl rfl rfl rfl rfl rfl rfl (WO.nil (dN [0,1,2,3] rfl ?_ ⟨rfl,rfl,trivial⟩ ?_ trivial rfl)));·repeat' first | exact trivial | refine⟨rfl,?_⟩
   repeat' first | exact trivial | refine⟨rfl,?_⟩
  have O:l=bh f (decide (e.n=2)):=by rw[hl];unfold fK;rw[show(!decide (f.ph=pS))=false from g24];rfl
  rw[O];refine aG rfl rfl (pE rfl (aG rfl rfl (pE rfl (aG rfl rfl ?_))));iterate 2 refine pE rfl ?_
  refine pu (ay rfl rfl rfl (rY f _) rfl) rfl ?_;refine pu (build aa rfl rfl rfl rfl) rfl ?_;refine aL aa rfl rfl rfl (ax aa rfl rfl rfl rfl rfl rfl rfl rfl (WO.nil (dN [0,1,2,3] rfl ?_ ⟨rfl,rfl,trivial⟩ ?_ trivial rfl)));·repeat' first | exact trivial | refine⟨rfl,?_⟩
  repeat' first | exact trivial | refine⟨rfl,?_⟩
 refine qs ?_;iterate 2 refine W.seq ?_
 refine W.region (pE rfl (pE rfl ?_));iterate 2 refine pE rfl ?_
 refine WO.nil (qs (W.block (eg 3 4 rfl rfl rfl ?_)));refine W.len (t:=32) rfl rfl (fun hlen=>?_);try simp only[List.length_map,Ex.aF] at hlen
 refine W.bF (ι:={x:Nat×List JV // match x with | (k,acc)=>k≤l.length∧acc=(l.take k).map (cJ f id e)})
  (fun x=>match x.1 with | (k,acc)=>[(3,.ptr 0 0),(4,.ptr 1 0),(6,.ptr 2 0),(7,.ptr 3 0),(34,.d (.v (.int .i64 ((k:Nat):Int))))]) [(0,_),(32,_),(33,_)]
  (fun x=>match x.1 with | (k,acc)=>[(0,e.c.map A.d),(1,w4),(2,f.c.map A.d),(3,[.d (ci 6),.d (ci 0),.d (cs aY),.d (.sl (l.map sc)),.own 4 (acc.map JV.c)])]) [] [4] 5 (fun x=>match x.1 with | (k,acc)=>l.length - k)
  [0,1,2,3,4] ⟨(0,[]),?_⟩ rfl ?_ ⟨rfl,rfl,rfl,rfl,rfl,rfl,trivial⟩ ?_ trivial rfl ?_
 ·exact⟨Nat.zero_le _,rfl⟩
 ·repeat' first | exact trivial | refine⟨rfl,?_⟩
 ·repeat' first | exact trivial | refine⟨rfl,?_⟩
 rintro⟨⟨k,acc⟩,hk,M⟩;show W _ _ _ _ _ ⟨[(3,.ptr 0 0),(4,.ptr 1 0),(6,.ptr 2 0),(7,.ptr 3 0),(34,.d (.v (.int .i64 ((k:Nat):Int)))),(0,_),(32,_),(33,_)],[(0,e.c.map A.d),(1,w4),(2,f.c.map A.d),(3,[.d (ci 6),.d (ci 0),.d (cs aY),.d (.sl (l.map sc)),.own 4 (acc.map JV.c)])],[4],5⟩;have b3:acc.length≤7:=by rw[M,List.length_map,List.length_take];omega
 refine W.seq (W.region (pE rfl (WO.nil (qs (W.seq (ca (l:=l) (k:=k) rfl (by simp[Ex.aF,aw]) hk (fun w U hd X=>?_) (fun he hd=>?_)))))));·
  refine W.skip (qs (W.seq (W.block (W.seq (W.region (pu (indexAddr (l:=sc w) aa rfl rfl rfl rfl rfl rfl (Int.natCast_nonneg _) (aV U) rfl) rfl ?_))))));refine pE rfl (pE rfl (WO.nil (qs (W.seq (W.region (aL aa rfl rfl rfl (WO.nil (qs ?_))))))));iterate 2 refine W.seq ?_
  refine W.region (pE rfl (WO.nil (qs (W.nI [(3,.ptr 0 0),(4,.ptr 1 0),(6,.ptr 2 0),(7,.ptr 3 0),(10,.ptr 4 0)] [0,32,33,34] [(0,e.c.map A.d),(1,w4),(2,f.c.map A.d),(3,[.d (ci 6),.d (ci 0),.d (cs aY),.d (.sl (l.map sc)),.own 5 (acc.map JV.c)]),(4,(cJ f id e w).c.map A.d)] [] [5] 6 ?_ ?_))));·
   refine W.block (W.seq (W.region ?_));iterate 2 refine pE rfl ?_
   refine WO.nil (qs (an rfl (fun Z=>?_) (fun Z=>?_)));·
    have hw:w=cN:=by simpa [cN] using Z
    rw[show cJ f id e w=tJ f.ph from if_pos hw];refine W.region (pE rfl (pE rfl (pu (ay rfl rfl rfl (gN ..) rfl) rfl ?_)));refine ax aa rfl rfl rfl rfl rfl rfl rfl rfl (WO.nil (bz (dN [0,1,2,3,5,4] rfl ?_ ⟨rfl,rfl,rfl,rfl,rfl,rfl,rfl,rfl,trivial⟩ ?_ trivial rfl)));·repeat' first | exact trivial | refine⟨rfl,?_⟩
    repeat' first | exact trivial | refine⟨rfl,?_⟩
   have n1:¬ w=cN:=by simpa [cN] using Z
   refine W.seq (W.region ?_);iterate 2 refine pE rfl ?_
   refine WO.nil (qs (an rfl (fun ad=>?_) (fun ad=>?_)));·
    have hw:w=bq:=by simpa [bq] using ad
    rw[show cJ f id e w=nJ id from by unfold cJ;rw[if_neg n1,if_pos hw]];refine W.region (pE rfl (pu (ay rfl rfl rfl (gU ..) rfl) rfl ?_));refine ax aa rfl rfl rfl rfl rfl rfl rfl rfl (WO.nil (bz (dN [0,1,2,3,5,4] rfl ?_ ⟨rfl,rfl,rfl,rfl,rfl,rfl,rfl,rfl,trivial⟩ ?_ trivial rfl)));·repeat' first | exact trivial | refine⟨rfl,?_⟩
    repeat' first | exact trivial | refine⟨rfl,?_⟩
   have n2:¬ w=bq:=by simpa [bq] using ad
   refine W.seq (W.region ?_);iterate 2 refine pE rfl ?_
   refine WO.nil (qs (an rfl (fun ai=>?_) (fun ai=>?_)));·
    have hw:w=bg:=by simpa [bg] using ai
    rw[show cJ f id e w=tJ e.name from by unfold cJ;rw[if_neg n1,if_neg n2,if_pos hw]];refine W.region (pE rfl (pE rfl (pu (ay rfl rfl rfl (gN ..) rfl) rfl ?_)));refine ax aa rfl rfl rfl rfl rfl rfl rfl rfl (WO.nil (bz (dN [0,1,2,3,5,4] rfl ?_ ⟨rfl,rfl,rfl,rfl,rfl,rfl,rfl,rfl,trivial⟩ ?_ trivial rfl)));·repeat' first | exact trivial | refine⟨rfl,?_⟩
    repeat' first | exact trivial | refine⟨rfl,?_⟩
   have n3:¬ w=bg:=by simpa [bg] using ai
   refine W.seq (W.region ?_);iterate 2 refine pE rfl ?_
   refine WO.nil (qs (an rfl (fun aj=>?_) (fun aj=>?_)));·
    have hw:w=eL:=by simpa [eL] using aj
    rw[show cJ f id e w=nJ e.time from by unfold cJ;rw[if_neg n1,if_neg n2,if_neg n3,if_pos hw]];refine W.region (pE rfl (pE rfl (pu (ay rfl rfl rfl (gU ..) rfl) rfl ?_)));refine ax aa rfl rfl rfl rfl rfl rfl rfl rfl (WO.nil (bz (dN [0,1,2,3,5,4] rfl ?_ ⟨rfl,rfl,rfl,rfl,rfl,rfl,rfl,rfl,trivial⟩ ?_ trivial rfl)));·repeat' first | exact trivial | refine⟨rfl,?_⟩
    repeat' first | exact trivial | refine⟨rfl,?_⟩
   have n4:¬ w=eL:=by simpa [eL] using aj
   refine W.seq (W.region ?_);iterate 2 refine pE rfl ?_
   refine WO.nil (qs (an rfl (fun a1=>?_) (fun a1=>?_)));·
    have hw:w=aU:=by simpa [aU] using a1
    rw[show cJ f id e w=.mk 5 0 aY [] (e.stack.map tJ) from by unfold cJ;rw[if_neg n1,if_neg n2,if_neg n3,if_neg n4,if_pos hw],hJ];refine W.seq (W.region (pu (build aa rfl rfl rfl rfl) rfl ?_));refine ax aa rfl rfl rfl rfl rfl rfl rfl rfl (WO.nil (qs (W.seq (W.region (pE rfl (pE rfl ?_))))));iterate 2 refine pE rfl ?_
    refine WO.nil (qs (W.block (gr 5 3 rfl rfl rfl ?_)));refine eg 5 4 rfl rfl rfl ?_;refine W.len (t:=65) rfl rfl (fun hlen=>?_);try simp only[List.length_map,Ex.aF] at hlen
    refine W.bF (ι:={x:Nat×List JV // match x with | (q,J)=>q≤e.stack.length∧J=(e.stack.take q).map tJ})
     (fun x=>match x.1 with | (q,J)=>[(3,.ptr 0 0),(4,.ptr 1 0),(6,.ptr 2 0),(7,.ptr 3 0),(10,.ptr 4 0),(67,.d (.v (.int .i64 ((q:Nat):Int))))]) [(0,_),(32,_),(33,_),(34,_),(65,_),(66,_)]
     (fun x=>match x.1 with | (q,J)=>[(0,e.c.map A.d),(1,w4),(2,f.c.map A.d),(3,[.d (ci 6),.d (ci 0),.d (cs aY),.d (.sl (l.map sc)),.own 5 (acc.map JV.c)]),(4,[.d (ci 5),.d (ci 0),.d (cs aY),.d (.sl []),.own 6 (J.map JV.c)])]) [] [5,6] 7 (fun x=>match x.1 with | (q,J)=>e.stack.length - q)
     [0,1,2,3,5,4,6] ⟨(0,[]),?_⟩ rfl ?_ ⟨rfl,rfl,rfl,rfl,rfl,rfl,rfl,rfl,rfl,rfl,rfl,rfl,trivial⟩ ?_ trivial rfl ?_
    ·exact⟨Nat.zero_le _,rfl⟩
    ·repeat' first | exact trivial | refine⟨rfl,?_⟩
    ·repeat' first | exact trivial | refine⟨rfl,?_⟩
    rintro⟨⟨q,J⟩,hk,N⟩;show W _ _ _ _ _ ⟨[(3,.ptr 0 0),(4,.ptr 1 0),(6,.ptr 2 0),(7,.ptr 3 0),(10,.ptr 4 0),(67,.d (.v (.int .i64 ((q:Nat):Int)))),(0,_),(32,_),(33,_),(34,_),(65,_),(66,_)],[(0,e.c.map A.d),(1,w4),(2,f.c.map A.d),(3,[.d (ci 6),.d (ci 0),.d (cs aY),.d (.sl (l.map sc)),.own 5 (acc.map JV.c)]),(4,[.d (ci 5),.d (ci 0),.d (cs aY),.d (.sl []),.own 6 (J.map JV.c)])],[5,6],7⟩;have ch:J.length≤e.stack.length:=by rw[N,List.length_map,List.length_take];omega
    refine W.seq (W.region (pE rfl (WO.nil (qs (W.seq (ca (l:=e.stack) (k:=q) rfl (by simp[Ex.aF,aw]) hk (fun u U hd X=>?_) (fun he hd=>?_)))))));·
     refine W.skip (qs (W.seq (W.block (W.seq (W.region (pu (indexAddr (l:=sc u) aa rfl rfl rfl rfl rfl rfl (Int.natCast_nonneg _) (aV U) rfl) rfl ?_))))));refine pE rfl (pE rfl (WO.nil (qs (W.oX aa [] [] [] [] 5 (by kernel_rfl) (by kernel_rfl) rfl rfl ?_))));refine' aQ (ev aa rfl) ?p_1 rfl rfl rfl (by kernel_rfl) rfl ?h_1;case' h_1=>skip
     case p_1=>refine⟨fun I=>(ab I (by kernel_rfl)).elim,?_⟩ <;> intro I <;> first | exact⟨ev aa rfl,fun h=>nomatch h⟩ | exact(ab I (by kernel_rfl)).elim
     refine' aQ (ev aa rfl) ?p_2 rfl rfl rfl (by kernel_rfl) rfl ?h_2;case' h_2=>skip
     case p_2=>refine⟨fun I=>(ab I (by kernel_rfl)).elim,?_⟩ <;> intro I <;> first | exact⟨ev aa rfl,fun h=>nomatch h⟩ | exact⟨dD aa rfl rfl rfl rfl,fun h=>nomatch h⟩ | exact⟨dE aa rfl rfl rfl rfl rfl,fun h=>nomatch h⟩ | exact(ab I (by kernel_rfl)).elim
     refine' aQ (ev aa rfl) ?p_3 rfl rfl rfl (by kernel_rfl) rfl ?h_3;case' h_3=>skip
     case p_3=>refine⟨fun I=>(ab I (by kernel_rfl)).elim,?_⟩ <;> intro I <;> first | exact⟨ev aa rfl,fun h=>nomatch h⟩ | exact(ab I (by kernel_rfl)).elim
     refine' aQ (ay rfl rfl rfl (gN ..) rfl) ?p_4 rfl rfl rfl (by kernel_rfl) rfl ?h_4;case' h_4=>skip
     case p_4=>refine⟨fun I=>(ab I (by kernel_rfl)).elim,?_⟩ <;> intro I <;> first | exact⟨ay rfl rfl rfl (gN ..) rfl,fun h=>nomatch h⟩ | exact(ab I (by kernel_rfl)).elim
     refine' aQ (aZ aa rfl rfl rfl rfl rfl rfl rfl rfl rfl) ?p_5 rfl rfl rfl (by kernel_rfl) rfl ?h_5;case' h_5=>skip
     case p_5=>refine⟨fun I=>(ab I (by kernel_rfl)).elim,?_⟩ <;> intro I <;> first | exact⟨aZ aa rfl rfl rfl rfl rfl rfl rfl rfl rfl,fun h=>nomatch h⟩ | exact(ab I (by kernel_rfl)).elim
     refine CD.nil ?_ rfl;refine eu (fn:=JV.c) (a:=tJ u) aa rfl rfl rfl rfl rfl rfl rfl rfl rfl rfl (fun _=>rfl) (by show(J.length+1)*80≤_;omega) ?_;refine pE rfl (ax aa rfl rfl rfl rfl rfl rfl rfl rfl (WO.nil (bz (qs (W.region ?_)))));iterate 2 refine pE rfl ?_
     refine WO.nil (W.bU [0,1,2,3,4,5,7] ⟨(q+1,J++[tJ u]),?_⟩ ?_ rfl ?_ ⟨rfl,rfl,rfl,rfl,rfl,rfl,rfl,rfl,rfl,rfl,rfl,rfl,trivial⟩ ?_ trivial rfl);·exact⟨X,by rw[List.take_add_one,U,List.map_append,N];rfl⟩
     ·dsimp only;omega
     ·repeat' first | exact trivial | refine⟨rfl,?_⟩ | refine⟨aP (by assumption) (by assumption),?_⟩
     repeat' first | exact trivial | refine⟨rfl,?_⟩
    have a8:J=e.stack.map tJ:=by rw[N,he,List.take_length]
    refine CZ 4 4 rfl rfl rfl ?_;subst a8;refine W.exit (bb (be (ba (bz (dN [0,1,2,3,4,5] rfl ?_ ⟨rfl,rfl,rfl,rfl,rfl,rfl,rfl,rfl,trivial⟩ ?_ trivial rfl)))));·repeat' first | exact trivial | refine⟨rfl,?_⟩
    repeat' first | exact trivial | refine⟨rfl,?_⟩
   have n5:¬ w=aU:=by simpa [aU] using a1
   refine W.seq (W.region (pE rfl (pE rfl ?_)));iterate 2 refine pE rfl ?_
   refine WO.nil (qs (an rfl (fun a6=>?_) (fun a6=>?_)));·
    have hw:w=f.n:=by simpa using a6
    rw[show cJ f id e w=nJ e.n from by unfold cJ;rw[if_neg n1,if_neg n2,if_neg n3,if_neg n4,if_neg n5,if_pos hw]];refine W.region (pE rfl (pE rfl (pu (ay rfl rfl rfl (gU ..) rfl) rfl ?_)));refine ax aa rfl rfl rfl rfl rfl rfl rfl rfl (WO.nil (bz (dN [0,1,2,3,5,4] rfl ?_ ⟨rfl,rfl,rfl,rfl,rfl,rfl,rfl,rfl,trivial⟩ ?_ trivial rfl)));·repeat' first | exact trivial | refine⟨rfl,?_⟩
    repeat' first | exact trivial | refine⟨rfl,?_⟩
   have n6:¬ w=f.n:=by simpa using a6
   rw[show cJ f id e w=nJ e.m from by unfold cJ;rw[if_neg n1,if_neg n2,if_neg n3,if_neg n4,if_neg n5,if_neg n6]];refine W.region (pE rfl (pE rfl (pu (ay rfl rfl rfl (gU ..) rfl) rfl ?_)));refine ax aa rfl rfl rfl rfl rfl rfl rfl rfl (WO.nil (bz (dN [0,1,2,3,5,4] rfl ?_ ⟨rfl,rfl,rfl,rfl,rfl,rfl,rfl,rfl,trivial⟩ ?_ trivial rfl)));·repeat' first | exact trivial | refine⟨rfl,?_⟩
   repeat' first | exact trivial | refine⟨rfl,?_⟩
  refine qs (W.region (pE rfl (pE rfl (pE rfl (pu (aZ aa rfl rfl rfl rfl rfl rfl rfl rfl rfl) rfl ?_)))));refine eu (fn:=JV.c) (a:=cJ f id e w) aa rfl rfl rfl rfl rfl rfl rfl rfl rfl rfl (fun _=>rfl) (by show(acc.length+1)*80≤_;omega) ?_;refine pE rfl (ax aa rfl rfl rfl rfl rfl rfl rfl rfl (WO.nil (bz (qs (W.region ?_)))));iterate 2 refine pE rfl ?_
  refine WO.nil (W.bU [0,1,2,3,6] ⟨(k+1,acc++[cJ f id e w]),?_⟩ ?_ rfl ?_ ⟨rfl,rfl,rfl,rfl,rfl,rfl,trivial⟩ ?_ trivial rfl);·exact⟨X,by rw[List.take_add_one,U,List.map_append,M];rfl⟩
  ·dsimp only;omega
  ·repeat' first | exact trivial | refine⟨rfl,?_⟩ | refine⟨aP (by assumption) (by assumption),?_⟩
  repeat' first | exact trivial | refine⟨rfl,?_⟩
 have b0:acc=l.map (cJ f id e):=by rw[M,he,List.take_length]
 refine W.exit (bb (be (ba (qs (W.seq (W.region (pE rfl (ax aa rfl rfl rfl rfl rfl rfl rfl rfl (WO.nil (qs (W.ret (QV.aB aa trivial rfl ?_))))))))))));rw[show ep f id e=.mk 6 0 aY l (l.map (cJ f id e)) from by rw[hl];rfl,hJ,b0];rfl
end Go.Proofs.YtpiaiiopakafhaaGreatDoor
namespace Go.Proofs.YtpiaiiopakafhaaGreatDoor
open Go.Ab Go.Tb
set_option maxRecDepth 10000
set_option maxHeartbeats 1000000
attribute [local irreducible] W WO Pu QS QB QL QF QV bu CH QE
end Go.Proofs.YtpiaiiopakafhaaGreatDoor
namespace Go.Proofs.YtpiaiiopakafhaaGreatDoor
open Go.Ab Go.Tb
set_option maxRecDepth 10000
set_option maxHeartbeats 1000000
attribute [local irreducible] W WO Pu QS QB QL QF QV bu CH QE
theorem Ey (b:UInt8):(b8 b).length≤2:=by unfold b8;split <;> (try split) <;> (try split) <;> simp
theorem rV:∀ l:List UInt8,(l.flatMap b8).length≤2*l.length
 | []=>by simp
 | b::l=>by have h1:=Ey b;have h2:=rV l;simp only[List.flatMap_cons,List.length_append,List.length_cons];omega
theorem gC (t:ByteArray) (l:List UInt8):ah (t++bytesOf l)=ah t++l:=by simp[ah,bytesOf]
theorem DI {b:UInt8} (h:(b.toNat:Int)=34∨(b.toNat:Int)=92) (t:ByteArray):t++B #[92]++bytesOf [b]=t++bytesOf (b8 b):=by
 have e:b=34∨b=92:=by
  rcases h with h | h
  ·exact .inl (UInt8.toNat_inj.1 (by show b.toNat=34;omega))
  exact .inr (UInt8.toNat_inj.1 (by show b.toNat=92;omega))
 refine iH ?_;unfold b8;rw[if_pos e];simp[ah,bytesOf]
theorem FT {b:UInt8} (h:(b.toNat:Int)=10) (t:ByteArray):t++B #[92,110]=t++bytesOf (b8 b):=by have e:b=10:=UInt8.toNat_inj.1 (by show b.toNat=10;omega);subst e;rfl
theorem FU {b:UInt8} (h:(b.toNat:Int)=9) (t:ByteArray):t++B #[92,116]=t++bytesOf (b8 b):=by have e:b=9:=UInt8.toNat_inj.1 (by show b.toNat=9;omega);subst e;rfl
theorem F0 {b:UInt8} (h1:¬ (b.toNat:Int)=34) (h2:¬ (b.toNat:Int)=92) (h3:¬ (b.toNat:Int)=10) (h4:¬ (b.toNat:Int)=9):b8 b=[b]:=by unfold b8;rw[if_neg (by rintro(rfl | rfl) <;> simp at h1 h2),if_neg (by rintro rfl;simp at h3),if_neg (by rintro rfl;simp at h4)]
end Go.Proofs.YtpiaiiopakafhaaGreatDoor
namespace Go.Proofs.YtpiaiiopakafhaaGreatDoor
open Go.Ab Go.Tb
set_option maxRecDepth 10000
set_option maxHeartbeats 1000000
attribute [local irreducible] W WO Pu QS QB QL QF QV bu CH QE
theorem eD (b:UInt8):(bytesOf [b]).size=1∧∀ x,(bytesOf [b]).data[0]? = some x→(x.toNat:Int)=(b.toNat:Int):=⟨rfl,by intro x I;cases I;rfl⟩
theorem jZ (t:ByteArray) (a b:List UInt8):t++bytesOf a++bytesOf b=t++bytesOf (a++b):=by refine iH ?_;show ah _=ah _;rw[gC,gC,gC,List.append_assoc]
theorem ea (t:ByteArray) (a:List UInt8):(t++bytesOf a).size=t.size+a.length:=by rw[uB]<;>rfl
theorem dY {u:Bool} {s m r:ByteArray} {c:Int} (e:s++m=r) (hm:m.size=1) (I:∀ b,m.data[0]? = some b→(b.toNat:Int)=c) (hb:s.size+1≤140737488355328):bp Tryz.prog 139 [.ptr 0 0,.d (.v (.int .u8 c))] [[.np 0 tB u,.bf 1 tU s]] 1 (.d (.v .nilIface)) [[.np 0 tB true,.bf 1 tU r]] 1:=e▸mw u s c m hm I hb
theorem jM {u:Bool} {s x r:ByteArray} (e:s++x=r) (hb:s.size+x.size≤140737488355328):bp Tryz.prog 137 [.ptr 0 0,.d (.v (.string x))] [[.np 0 tB u,.bf 1 tU s]] 1 (.tup [.d (.v (.int .i64 x.size)),.d (.v .nilIface)]) [[.np 0 tB true,.bf 1 tU r]] 1:=e▸zm u s x hb
theorem Bc (u:Bool) (t s:ByteArray) (hz:t.size+2*s.size+2≤140737488355328):bp Tryz.prog 138 [.ptr 0 0,.d (.v (.string s))] [[.np 0 tB u,.bf 1 tU t]] 1 (.tup []) [[.np 0 tB true,.bf 1 tU (t++bytesOf (bY (ah s)))]] 1:=by
 refine bp.cZ aa (n:=39) (rs:=[]) Tryz.func138 (by kernel_rfl) rfl Tryz.ntmps138 Tryz.results138 rfl rfl fun C hC hG=>?_;refine W.seq (W.region (pE rfl (aE [0] [1] rfl rfl rfl rfl rfl ((mw u t 34 (bytesOf [34]) rfl (eD 34).2 (by omega))) rfl rfl (by rfl) (by rfl) rfl rfl rfl rfl ?_)));refine WO.nil (qs ?_);iterate 2 refine W.seq ?_
 refine W.region ?_;iterate 3 refine pE rfl ?_
 refine WO.nil (qs (W.block (W.l9 (t:=1) rfl (fun hok=>?_))));have hlen:=kQ hok
 refine W.bF (ι:={x:Nat×ByteArray // match x with | (k,T)=>k≤(ah s).length∧T=t++bytesOf (34::((ah s).take k).flatMap b8)})
  (fun x=>match x.1 with | (k,T)=>[(0,.ptr 0 0),(10,.d (.v (.int .i64 ((k:Nat):Int))))]) [(1,_),(9,_)]
  (fun x=>match x.1 with | (k,T)=>[(0,[.np 0 tB true,.bf 1 tU T])]) [] [1] 2 (fun x=>match x.1 with | (k,T)=>(ah s).length - k)
  [0,3] ⟨(0,t++bytesOf [34]),?_⟩ rfl ?_ ⟨rfl,rfl,rfl,rfl,trivial⟩ ?_ trivial rfl ?_
 ·exact⟨Nat.zero_le _,by simp⟩
 ·repeat' first | exact trivial | refine⟨rfl,?_⟩
 ·repeat' first | exact trivial | refine⟨rfl,?_⟩
 rintro⟨⟨k,T⟩,hk,N⟩;show W _ _ _ _ _ ⟨[(0,.ptr 0 0),(10,.d (.v (.int .i64 ((k:Nat):Int)))),(1,_),(9,_)],[(0,[.np 0 tB true,.bf 1 tU T])],[1],2⟩;refine W.seq (W.region (pE rfl (WO.nil (qs (W.seq (ca (l:=ah s) (k:=k) rfl (by simp[Ex.aF,aw]) hk (fun b hx hd I=>?_) (fun he hd=>?_)))))));·
  have U:T.size≤t.size+1+2*k:=by rw[N,ea];have:=rV ((ah s).take k);simp at *;omega
  have X:k+1≤s.size:=by rw[←aw];omega
  have J:T++bytesOf (b8 b)=t++bytesOf (34::((ah s).take (k+1)).flatMap b8):=by rw[N,jZ,List.take_add_one,hx];simp
  refine W.skip (qs (W.seq (W.block (W.seq (W.region ?_)))));iterate 2 refine pE rfl ?_
  refine WO.nil (qs (W.seq (W.region ?_)));iterate 2 refine pE rfl ?_
  refine pu (dM aa rfl rfl rfl rfl (Int.natCast_nonneg _) (gf (by assumption))) rfl ?_;refine pE rfl (WO.nil (qs (W.seq (W.region (pE rfl (WO.nil (qs (W.block ?_))))))));iterate 2 refine W.seq ?_
  refine W.region ?_;iterate 2 refine pE rfl ?_
  refine WO.nil (qs (an rfl (fun M=>?_) (fun M=>?_)));·
   refine W.skip (qs (W.lB rfl (W.seq (W.region (pE rfl (aE [0] [1] rfl rfl rfl rfl rfl ((mw true T 92 (bytesOf [92]) rfl (eD 92).2 (by omega))) rfl rfl (by rfl) (by rfl) rfl rfl rfl rfl ?_))))));refine WO.nil (qs (W.region ?_));iterate 2 refine pE rfl ?_
   refine aE [0] [3] rfl rfl rfl rfl rfl ((dY (c:=b.toNat) (s:=T++bytesOf [92]) (m:=bytesOf [b]) (DI (b:=b) (by simp_all) T) rfl (eD b).2 (by rw[ea];simp;omega))) rfl rfl (by rfl) (by rfl) rfl rfl rfl rfl ?_;refine WO.nil (bz (bz (qs (W.region ?_))));iterate 2 refine pE rfl ?_
   refine WO.nil (W.bU [0,5] ⟨(k+1,T++bytesOf (b8 b)),?_⟩ ?_ rfl ?_ ⟨rfl,rfl,rfl,rfl,trivial⟩ ?_ trivial rfl);·exact⟨I,J⟩
   ·dsimp only;omega
   ·repeat' first | exact trivial | refine⟨rfl,?_⟩ | refine⟨aP (by assumption) (by assumption),?_⟩
   repeat' first | exact trivial | refine⟨rfl,?_⟩
  refine W.region ?_;iterate 2 refine pE rfl ?_
  refine WO.nil (qs (an rfl (fun M=>?_) (fun M=>?_)));·
   refine W.seq (W.region (pE rfl (aE [0] [1] rfl rfl rfl rfl rfl ((mw true T 92 (bytesOf [92]) rfl (eD 92).2 (by omega))) rfl rfl (by rfl) (by rfl) rfl rfl rfl rfl ?_)));refine WO.nil (qs (W.region ?_));iterate 2 refine pE rfl ?_
   refine aE [0] [3] rfl rfl rfl rfl rfl ((dY (c:=b.toNat) (s:=T++bytesOf [92]) (m:=bytesOf [b]) (DI (b:=b) (by simp_all) T) rfl (eD b).2 (by rw[ea];simp;omega))) rfl rfl (by rfl) (by rfl) rfl rfl rfl rfl ?_;refine WO.nil (bz (bz (qs (W.region ?_))));iterate 2 refine pE rfl ?_
   refine WO.nil (W.bU [0,5] ⟨(k+1,T++bytesOf (b8 b)),?_⟩ ?_ rfl ?_ ⟨rfl,rfl,rfl,rfl,trivial⟩ ?_ trivial rfl);·exact⟨I,J⟩
   ·dsimp only;omega
   ·repeat' first | exact trivial | refine⟨rfl,?_⟩ | refine⟨aP (by assumption) (by assumption),?_⟩
   repeat' first | exact trivial | refine⟨rfl,?_⟩
  refine W.seq (W.region ?_);iterate 2 refine pE rfl ?_
  refine WO.nil (qs (an rfl (fun Z=>?_) (fun Z=>?_)));·
   refine W.region (pE rfl (aE [0] [1] rfl rfl rfl rfl rfl ((jM (s:=T) (x:=bytesOf [92,110]) (FT (b:=b) (by simp_all) T) (by rw[show(bytesOf [92,110]).size=2 from rfl];omega))) rfl rfl (by rfl) (by rfl) rfl rfl rfl rfl ?_));refine WO.nil (bz (bz (qs (W.region ?_))));iterate 2 refine pE rfl ?_
   refine WO.nil (W.bU [0,3] ⟨(k+1,T++bytesOf (b8 b)),?_⟩ ?_ rfl ?_ ⟨rfl,rfl,rfl,rfl,trivial⟩ ?_ trivial rfl);·exact⟨I,J⟩
   ·dsimp only;omega
   ·repeat' first | exact trivial | refine⟨rfl,?_⟩ | refine⟨aP (by assumption) (by assumption),?_⟩
   repeat' first | exact trivial | refine⟨rfl,?_⟩
  refine W.seq (W.region ?_);iterate 2 refine pE rfl ?_
  refine WO.nil (qs (an rfl (fun ad=>?_) (fun ad=>?_)));·
   refine W.region (pE rfl (aE [0] [1] rfl rfl rfl rfl rfl ((jM (s:=T) (x:=bytesOf [92,116]) (FU (b:=b) (by simp_all) T) (by rw[show(bytesOf [92,116]).size=2 from rfl];omega))) rfl rfl (by rfl) (by rfl) rfl rfl rfl rfl ?_));refine WO.nil (bz (bz (qs (W.region ?_))));iterate 2 refine pE rfl ?_
   refine WO.nil (W.bU [0,3] ⟨(k+1,T++bytesOf (b8 b)),?_⟩ ?_ rfl ?_ ⟨rfl,rfl,rfl,rfl,trivial⟩ ?_ trivial rfl);·exact⟨I,J⟩
   ·dsimp only;omega
   ·repeat' first | exact trivial | refine⟨rfl,?_⟩ | refine⟨aP (by assumption) (by assumption),?_⟩
   repeat' first | exact trivial | refine⟨rfl,?_⟩
  refine W.region ?_;iterate 2 refine pE rfl ?_
  refine aE [0] [1] rfl rfl rfl rfl rfl ((dY (c:=b.toNat) (s:=T) (m:=bytesOf [b]) (congrArg (fun l=>T++bytesOf l) (F0 (b:=b) (by simp_all) (by simp_all) (by simp_all) (by simp_all)).symm) rfl (eD b).2 (by omega))) rfl rfl (by rfl) (by rfl) rfl rfl rfl rfl ?_;refine WO.nil (bz (bz (qs (W.region ?_))));iterate 2 refine pE rfl ?_
  refine WO.nil (W.bU [0,3] ⟨(k+1,T++bytesOf (b8 b)),?_⟩ ?_ rfl ?_ ⟨rfl,rfl,rfl,rfl,trivial⟩ ?_ trivial rfl);·exact⟨I,J⟩
  ·dsimp only;omega
  ·repeat' first | exact trivial | refine⟨rfl,?_⟩ | refine⟨aP (by assumption) (by assumption),?_⟩
  repeat' first | exact trivial | refine⟨rfl,?_⟩
 have e:k=(ah s).length:=by have:=congrArg List.length hd;simp at this;omega
 have U:T.size≤t.size+1+2*k:=by rw[N,ea];have:=rV ((ah s).take k);simp at *;omega
 have X:k=s.size:=by rw[←aw];omega
 have O:T++bytesOf [34]=t++bytesOf (bY (ah s)):=by rw[N,jZ,e,List.take_length];rfl
 refine W.exit (bb (be (ba (qs (W.region (pE rfl (aE [0] [1] rfl rfl rfl rfl rfl ((dY (c:=34) (s:=T) (m:=bytesOf [34]) O rfl (eD 34).2 (by omega))) rfl rfl (by rfl) (by rfl) rfl rfl rfl rfl ?_)))))));refine WO.nil (b4.end aa [3] trivial rfl rfl rfl rfl ?_ ?_);·exact⟨rfl,trivial⟩
 rfl
end Go.Proofs.YtpiaiiopakafhaaGreatDoor
namespace Go.Proofs.YtpiaiiopakafhaaGreatDoor
open Go.Ab Go.Tb
set_option maxRecDepth 10000
set_option maxHeartbeats 1000000
attribute [local irreducible] W WO Pu QS QB QL QF QV bu CH QE
theorem yY:∀ l:List UInt8,l.length≤(l.flatMap b8).length
 | []=>by simp
 | b::l=>by
  have h1:1≤(b8 b).length:=by unfold b8;split <;> (try split) <;> (try split) <;> simp
  have h2:=yY l;simp only[List.flatMap_cons,List.length_append,List.length_cons];omega
theorem uP (s:ByteArray):s.size+2≤(bY (ah s)).length:=by have h:=yY (ah s);rw[aw] at h;simp only[bY,List.length_cons,List.length_append,List.length_nil];omega
theorem qK:∀ (l:List JV) (z:JV) (first:Bool),bZ (l++[z]) first=bZ l first++(if first && l.isEmpty then [] else [44])++aq z
 | [],z,first=>by cases first <;> simp[bZ]
 | a::l,z,first=>by rw[List.cons_append,bZ,bZ,qK l z false];simp
theorem oz:∀ (ks:List ByteArray) (l:List JV) (s:ByteArray) (z:JV) (first:Bool),ks.length=l.length→aR (ks++[s]) (l++[z]) first=aR ks l first++(if first && l.isEmpty then [] else [44])++bY (ah s)++[58]++aq z
 | [],[],s,z,first,_=>by cases first <;> simp[aR]
 | a::ks,b::l,s,z,first,h=>by rw[List.cons_append,List.cons_append,aR,aR,oz ks l s z false (by simpa using h)];simp
 | [],_::_,_,_,_,h=>by simp at h
 | _::_,[],_,_,_,h=>by simp at h
def eR (j:JV) (k:Nat):List UInt8:=if j.op=6 then aR (j.keys.take k) (j.kids.take k) true else bZ (j.kids.take k) true
def lA (j:JV):UInt8:=if j.op=6 then 123 else 91
def qG (j:JV):UInt8:=if j.op=6 then 125 else 93
def cD (k:Nat):List UInt8:=if k=0 then [] else [44]
def eQ (j:JV) (k:Nat):List UInt8:=if j.op=6 then bY (ah (j.keys.getD k (B #[])))++[58] else []
theorem tF (j:JV):eR j 0=[]:=by unfold eR;split <;> simp[aR,bZ]
theorem AR {l:List JV} {k:Nat} (h:k < l.length):(l.take k).isEmpty=decide (k=0):=by
 rw[Bool.eq_iff_iff];simp only[List.isEmpty_iff,decide_eq_true_eq,List.take_eq_nil_iff];constructor;·
  rintro(h1 | h1);·exact h1
  rw[h1] at h;simp at h
 exact fun h1=>.inl h1
theorem lC {j:JV} {k:Nat} {z:JV} (I:j.kids[k]? = some z) (hl:j.op=6→j.keys.length=j.kids.length):eR j (k+1)=eR j k++cD k++eQ j k++aq z:=by
 have M:k < j.kids.length:=(List.getElem?_eq_some_iff.1 I).1;have hs:(if (true && (j.kids.take k).isEmpty)=true then [] else [44])=cD k:=by rw[AR M];unfold cD;by_cases q:k=0 <;> simp[q]
 unfold eR eQ;by_cases ho:j.op=6;·
  have hl:=hl ho;have J:j.keys[k]? = some (j.keys.getD k (B #[])):=by rw[List.getD_eq_getElem?_getD,List.getElem?_eq_getElem (by omega)];rfl
  simp only[if_pos ho];rw[List.take_add_one,J,List.take_add_one,I];show aR (_++[_]) (_++[_]) true=_;rw[oz _ _ _ _ _ (by simp;omega),hs];simp only[List.append_assoc]
 simp only[if_neg ho];rw[List.take_add_one,I];show bZ (_++[_]) true=_;rw[qK,hs];simp only[List.append_assoc,List.nil_append]
theorem Au:∀ {j:JV},j.op=6→aq j=123::(aR j.keys j.kids true++[125])
 | .mk op n s keys kids,h=>by have h:op=6:=h;subst h;rw[aq];rfl
theorem zn:∀ {j:JV},j.op≠1→j.op≠2→j.op≠3→j.op≠4→j.op≠6→aq j=91::(bZ j.kids true++[93])
 | .mk op n s keys kids,h1,h2,h3,h4,I=>by rw[aq,if_neg (show ¬ op=1 from h1),if_neg (show ¬ op=2 from h2),if_neg (show ¬ op=3 from h3),if_neg (show ¬ op=4 from h4),if_neg (show ¬ op=6 from I)];rfl
theorem rb {j:JV} (h1:j.op≠1) (h2:j.op≠2) (h3:j.op≠3) (h4:j.op≠4) (hl:j.op=6→j.keys.length=j.kids.length):aq j=lA j::(eR j j.kids.length++[qG j]):=by
 unfold lA eR qG;by_cases ho:j.op=6;·rw[Au ho,if_pos ho,if_pos ho,if_pos ho,List.take_length,←hl ho,List.take_length]
 rw[zn h1 h2 h3 h4 ho,if_neg ho,if_neg ho,if_neg ho,List.take_length]
theorem tN {j:JV} (hl:j.op=6→j.keys.length=j.kids.length):∀ (d k:Nat),k+d=j.kids.length→(eR j k).length≤(eR j j.kids.length).length
 | 0,k,h=>by rw[←h];simp
 | d+1,k,h=>by
  have I:k < j.kids.length:=by omega
  have h1:=lC (j:=j) (k:=k) (z:=j.kids[k]) (by simp[I]) hl;have h2:=tN hl d (k+1) (by omega);rw[h1] at h2;simp only[List.length_append] at h2;omega
end Go.Proofs.YtpiaiiopakafhaaGreatDoor
namespace Go.Proofs.YtpiaiiopakafhaaGreatDoor
open Go.Ab Go.Tb
set_option maxRecDepth 10000
set_option maxHeartbeats 1000000
attribute [local irreducible] W WO Pu QS QB QL QF QV bu CH QE
theorem F9 {j:JV} {lv:Int} (h:aX j lv=0):(1≤j.op∧j.op≤6)∧(j.op=2→j.n=0∨j.n=1)∧(j.op=3→cY j.n=true)∧(j.op=6→j.keys.length=j.kids.length)∧(∀ z∈j.kids,aX z (lv+1)=0):=by
 rw[eU] at h;have h0:eA j lv=0:=by
  by_cases q:eA j lv=0;·exact q
  rw[if_pos q] at h;exact h
 rw[if_neg (by simp[h0])] at h;obtain⟨I,M,_⟩:=fM h0;have N:∀ l:List JV,cB l (lv+1)=0→∀ z∈l,aX z (lv+1)=0:=by
  intro l
  induction l with
  | nil=>intro _ z J;cases J
  | cons a l O=>
   intro U z J;obtain⟨h1,h2⟩:=fI U;rcases List.mem_cons.1 J with rfl | J
   ·exact h1
   exact O h2 z J
 refine⟨?_,?_,?_,?_,N _ h⟩;·
  unfold bG at I;by_cases e1:j.op=1;·omega
  rw[if_neg e1] at I;by_cases e2:j.op=2∨j.op=3;·omega
  rw[if_neg e2] at I;by_cases e4:j.op=4;·omega
  rw[if_neg e4] at I;by_cases e5:j.op=5;·omega
  rw[if_neg e5] at I;by_cases e6:j.op=6;·omega
  rw[if_neg e6] at I;cases I
 ·
  intro e;by_cases q0:j.n=0;·exact .inl q0
  by_cases q1:j.n=1;·exact .inr q1
  exact absurd (.inl ⟨e,q0,q1⟩) M
 ·
  intro e
  cases hi:cY j.n with
  | true=>rfl
  | false=>exact absurd (.inr ⟨e,hi⟩) M
 intro e;unfold bG at I;rw[if_neg (by omega),if_neg (by omega),if_neg (by omega),if_neg (by omega),if_pos e] at I;simp only[Bool.and_eq_true,decide_eq_true_eq] at I;exact I.2.2
theorem Ec:∀ {j:JV},j.op=1→aq j=lb
 | .mk op n s keys kids,h=>by have h:op=1:=h;subst h;rw[aq];rfl
theorem EP:∀ {j:JV},j.op=2→aq j=if j.n=1 then je else gK
 | .mk op n s keys kids,h=>by have h:op=2:=h;subst h;rw[aq];rfl
theorem Em:∀ {j:JV},j.op=3→aq j=ah (cT j.n)
 | .mk op n s keys kids,h=>by have h:op=3:=h;subst h;rw[aq];rfl
theorem EV:∀ {j:JV},j.op=4→aq j=bY (ah j.s)
 | .mk op n s keys kids,h=>by have h:op=4:=h;subst h;rw[aq];rfl
theorem Ek {n:Int} (h:cY n=true):-9223372036854775808≤n∧n≤9223372036854775807:=by unfold cY at h;simp only[Bool.and_eq_true,decide_eq_true_eq] at h;omega
theorem E4 {j:JV} {k:Nat} (I:j.op=6) (hl:j.keys.length=j.kids.length) (J:k < j.kids.length):∃ s,j.keys[k]? = some s∧eQ j k=bY (ah s)++[58]:=by refine⟨j.keys[k],by rw[List.getElem?_eq_getElem],?_⟩;unfold eQ;rw[if_pos I,List.getD_eq_getElem?_getD,List.getElem?_eq_getElem (by omega)];rfl
theorem sH {j:JV} {k:Nat} {z:JV} (I:j.kids[k]? = some z) (hl:j.op=6→j.keys.length=j.kids.length):(eR j k).length+(cD k).length+(eQ j k).length+(aq z).length≤(eR j j.kids.length).length:=by have J:k < j.kids.length:=(List.getElem?_eq_some_iff.1 I).1;have h:=tN hl (j.kids.length - (k+1)) (k+1) (by omega);rw[lC I hl] at h;simp only[List.length_append] at h;omega
end Go.Proofs.YtpiaiiopakafhaaGreatDoor
namespace Go.Proofs.YtpiaiiopakafhaaGreatDoor
open Go.Ab Go.Tb
set_option maxRecDepth 10000
set_option maxHeartbeats 1000000
attribute [local irreducible] W WO Pu QS QB QL QF QV bu CH QE
theorem kJ {u:Bool} {t s r:ByteArray} (e:t++bytesOf (bY (ah s))=r) (I:t.size+2*s.size+2≤140737488355328):bp Tryz.prog 138 [.ptr 0 0,.d (.v (.string s))] [[.np 0 tB u,.bf 1 tU t]] 1 (.tup []) [[.np 0 tB true,.bf 1 tU r]] 1:=e▸Bc u t s I
theorem qW (l:List UInt8):(bytesOf l).size=l.length:=rfl
theorem Ff {n:Int} (h:n=0∨n=1):([[cs (B #[102,97,108,115,101])],[cs (B #[116,114,117,101])]]:List (List D))[n.toNat]? = some [cs (bytesOf (if n=1 then je else gK))]:=by rcases h with rfl | rfl <;> rfl
theorem yL (j:JV) (u:Bool) (t:ByteArray) (ih:∀ z∈j.kids,∀ (u:Bool) (t r:ByteArray),t++bytesOf (aq z)=r→t.size+2*(aq z).length+2≤140737488355328→bp Tryz.prog 89 [.ptr 0 0,.ag z.c] [[.np 0 tB u,.bf 1 tU t]] 1 (.tup []) [[.np 0 tB true,.bf 1 tU r]] 1) (c6:1≤j.op∧j.op≤6) (cx:j.op=2→j.n=0∨j.n=1) (cy:j.op=3→cY j.n=true) (I:j.op=6→j.keys.length=j.kids.length) (M:t.size+2*(aq j).length+2≤140737488355328) (X:j.op=6) :
 bp Tryz.prog 89 [.ptr 0 0,.ag j.c] [[.np 0 tB u,.bf 1 tU t]] 1 (.tup []) [[.np 0 tB true,.bf 1 tU (t++bytesOf (aq j))]] 1:=by
 have hO:lA j=123:=if_pos X;have b2:qG j=125:=if_pos X;rw[hJ j];refine bp.cZ aa (n:=74) (rs:=[]) Tryz.func89 (by kernel_rfl) rfl Tryz.ntmps89 Tryz.results89 rfl rfl fun C hC hG=>?_;refine W.seq (W.region (cw rfl rfl rfl (WO.nil (qs (W.seq (W.region (pE rfl (pE rfl (WO.nil (qs (W.block (W.seq (W.region ?_)))))))))))));iterate 2 refine pE rfl ?_
 refine WO.nil (qs (an rfl (fun ad=>?_) (fun ad=>?_)));·exfalso;simp at ad;omega
 refine W.seq (W.region ?_);iterate 2 refine pE rfl ?_
 refine WO.nil (qs (an rfl (fun ai=>?_) (fun ai=>?_)));·exfalso;simp at ai;omega
 refine W.seq (W.region ?_);iterate 2 refine pE rfl ?_
 refine WO.nil (qs (an rfl (fun aj=>?_) (fun aj=>?_)));·exfalso;simp at aj;omega
 refine W.seq (W.region ?_);iterate 2 refine pE rfl ?_
 refine WO.nil (qs (an rfl (fun a1=>?_) (fun a1=>?_)));·exfalso;simp at a1;omega
 have hg:=rb (j:=j) (by omega) (by omega) (by omega) (by omega) I;refine W.seq (W.region (pE rfl (WO.nil (qs ?_))));iterate 2 refine W.seq ?_
 refine W.region (pE rfl (pE rfl (pE rfl (WO.nil (qs (an rfl (fun a6=>?_) (fun a6=>?_)))))));·
  refine W.region (pE rfl (WO.nil (qs (W.seq (W.region ?_)))));iterate 2 refine pE rfl ?_
  refine pu (dM (b:=123) aa rfl rfl rfl rfl (by decide) rfl) rfl ?_;refine aE [0] [1] rfl rfl rfl rfl rfl ((dY (c:=123) (s:=t) (m:=B #[123]) (r:=t++bytesOf [123]) rfl rfl (eD 123).2 (by omega))) rfl rfl (by rfl) (by rfl) rfl rfl rfl rfl ?_;refine WO.nil (qs ?_);iterate 2 refine W.seq ?_
  refine W.region (pE rfl (pE rfl ?_));iterate 2 refine pE rfl ?_
  refine WO.nil (qs (W.block (W.len (t:=17) rfl rfl (fun hlen=>?_))));try simp only[List.length_map,Ex.aF] at hlen
  refine W.bF (ι:={x:Nat×ByteArray // match x with | (k,T)=>k≤j.kids.length∧T=t++bytesOf (lA j::eR j k)})
   (fun x=>match x.1 with | (k,T)=>[(0,.ptr 0 0),(3,.ptr 2 0),(19,.d (.v (.int .i64 ((k:Nat):Int))))]) [(4,_),(17,_),(18,_)]
   (fun x=>match x.1 with | (k,T)=>[(0,[.np 0 tB true,.bf 1 tU T]),(2,[.d (ci j.op),.d (ci j.n),.d (cs j.s),.d (.sl (j.keys.map sc)),.d (.sl (j.kids.map JV.c))])]) [] [1] 3 (fun x=>match x.1 with | (k,T)=>j.kids.length - k)
   [0,4,2] ⟨(0,t++bytesOf [123]),?_⟩ rfl ?_ ⟨rfl,rfl,rfl,rfl,rfl,rfl,trivial⟩ ?_ trivial rfl ?_
  ·exact⟨Nat.zero_le _,by rw[tF,hO]⟩
  ·repeat' first | exact trivial | refine⟨rfl,?_⟩
  ·repeat' first | exact trivial | refine⟨rfl,?_⟩
  rintro⟨⟨k,T⟩,hk,Z⟩;show W _ _ _ _ _ ⟨[(0,.ptr 0 0),(3,.ptr 2 0),(19,.d (.v (.int .i64 ((k:Nat):Int)))),(4,_),(17,_),(18,_)],[(0,[.np 0 tB true,.bf 1 tU T]),(2,[.d (ci j.op),.d (ci j.n),.d (cs j.s),.d (.sl (j.keys.map sc)),.d (.sl (j.kids.map JV.c))])],[1],3⟩;refine W.seq (W.region (pE rfl (WO.nil (qs (W.seq (ca (l:=j.kids) (k:=k) rfl (by simp[Ex.aF,aw]) hk (fun z hx hd N=>?_) (fun he hd=>?_)))))));·
   have hp:=sH hx I;have b3:=lC hx I;have ch:k < j.kids.length:=N;rw[hg] at M;simp only[List.length_cons,List.length_append,List.length_nil] at M;have cj:T.size=t.size+(eR j k).length+1:=by rw[Z,ea];rfl
   have a7:∀ {u:Bool} {t r:ByteArray},t++bytesOf (aq z)=r→t.size+2*(aq z).length+2≤140737488355328→bp Tryz.prog 89 [.ptr 0 0,.ag z.c] [[.np 0 tB u,.bf 1 tU t]] 1 (.tup []) [[.np 0 tB true,.bf 1 tU r]] 1:=fun {u t r}=>ih z (List.mem_of_getElem? hx) u t r;have hN:T++bytesOf (cD k)++bytesOf (eQ j k)++bytesOf (aq z)=t++bytesOf (lA j::eR j (k+1)):=by rw[Z,jZ,jZ,jZ,b3];simp only[List.append_assoc,List.cons_append]
   have cq:(cD k).length≤1:=by unfold cD;split <;> simp
   obtain⟨s,a8,O⟩:=E4 X (I X) ch;have c1:(eQ j k).length=(bY (ah s)).length+1:=by rw[O];simp
   have c7:=uP s;have df:(T++bytesOf (cD k)).size≤T.size+1:=by rw[ea];omega
   refine W.skip (qs (W.seq (W.block (W.seq (W.region (pE rfl (pu (indexAddr (l:=z.c) aa rfl rfl rfl rfl rfl rfl (Int.natCast_nonneg _) (aV hx) rfl) rfl ?_)))))));refine pE rfl (aL aa rfl rfl rfl (pE rfl (ax aa rfl rfl rfl rfl rfl rfl rfl rfl (WO.nil (qs ?_)))));iterate 2 refine W.seq ?_
   refine W.region ?_;iterate 2 refine pE rfl ?_
   refine WO.nil (qs (an rfl (fun U=>?_) (fun U=>?_)));·
    have cl:bytesOf (cD k)=B #[44]:=by unfold cD;rw[if_neg (by simp at U;omega)];rfl
    refine W.region (pE rfl (aE [0] [1] rfl rfl rfl rfl rfl ((dY (c:=44) (s:=T) (m:=B #[44]) (r:=T++bytesOf (cD k)) (by rw[cl]) rfl (eD 44).2 (by omega))) rfl rfl (by rfl) (by rfl) rfl rfl rfl rfl ?_));refine WO.nil (qs ?_);iterate 2 refine W.seq ?_
    refine W.region (pE rfl (pE rfl (pE rfl (WO.nil (qs (an rfl (fun J=>?_) (fun J=>?_)))))));·
     refine W.seq (W.region ?_);iterate 2 refine pE rfl ?_
     refine pE rfl (pE rfl (pu (indexAddr (l:=sc s) aa rfl rfl rfl rfl rfl rfl (Int.natCast_nonneg _) (aV a8) rfl) rfl ?_));refine pE rfl ?_;first | refine aE [0] [5] rfl rfl rfl rfl rfl (kJ (s:=s) (r:=T++bytesOf (cD k)++bytesOf (bY (ah s))) (by first | rfl | rw[hs]) (by omega)) rfl rfl (by rfl) (by rfl) rfl rfl rfl rfl ?_ | refine aE [0] [1] rfl rfl rfl rfl rfl (kJ (s:=s) (r:=T++bytesOf (cD k)++bytesOf (bY (ah s))) (by first | rfl | rw[hs]) (by omega)) rfl rfl (by rfl) (by rfl) rfl rfl rfl rfl ?_
     refine WO.nil (qs (W.region (pE rfl (aE [0] [7] rfl rfl rfl rfl rfl (dY (c:=58) (s:=T++bytesOf (cD k)++bytesOf (bY (ah s))) (m:=B #[58]) (r:=T++bytesOf (cD k)++bytesOf (eQ j k)) (by rw[O,←jZ];rfl) rfl (eD 58).2 (by rw[ea];omega)) rfl rfl (by rfl) (by rfl) rfl rfl rfl rfl ?_))));refine WO.nil (qs (W.region (pE rfl (pE rfl (aE [0] [9] rfl rfl rfl rfl rfl (a7 (t:=T++bytesOf (cD k)++bytesOf (eQ j k)) (r:=T++bytesOf (cD k)++bytesOf (eQ j k)++bytesOf (aq z)) rfl (by rw[ea];omega)) rfl rfl (by rfl) (by rfl) rfl rfl rfl rfl ?_)))));refine WO.nil (bz (qs (W.region ?_)));iterate 2 refine pE rfl ?_
     refine WO.nil (W.bU [0,11,2] ⟨(k+1,T++bytesOf (cD k)++bytesOf (eQ j k)++bytesOf (aq z)),?_⟩ ?_ rfl ?_ ⟨rfl,rfl,rfl,rfl,rfl,rfl,trivial⟩ ?_ trivial rfl);·exact⟨N,hN⟩
     ·dsimp only;omega
     ·repeat' first | exact trivial | refine⟨rfl,?_⟩ | refine⟨aP (by assumption) (by assumption),?_⟩
     repeat' first | exact trivial | refine⟨rfl,?_⟩
    exfalso;simp at J;omega
   have hs:T++bytesOf (cD k)=T:=by unfold cD;rw[if_pos (by simp at U;omega)];exact iH (by show ah _=ah _;rw[gC];simp)
   refine W.skip (qs ?_);iterate 2 refine W.seq ?_
   refine W.region (pE rfl (pE rfl (pE rfl (WO.nil (qs (an rfl (fun J=>?_) (fun J=>?_)))))));·
    refine W.seq (W.region ?_);iterate 2 refine pE rfl ?_
    refine pE rfl (pE rfl (pu (indexAddr (l:=sc s) aa rfl rfl rfl rfl rfl rfl (Int.natCast_nonneg _) (aV a8) rfl) rfl ?_));refine pE rfl ?_;first | refine aE [0] [5] rfl rfl rfl rfl rfl (kJ (s:=s) (r:=T++bytesOf (cD k)++bytesOf (bY (ah s))) (by first | rfl | rw[hs]) (by omega)) rfl rfl (by rfl) (by rfl) rfl rfl rfl rfl ?_ | refine aE [0] [1] rfl rfl rfl rfl rfl (kJ (s:=s) (r:=T++bytesOf (cD k)++bytesOf (bY (ah s))) (by first | rfl | rw[hs]) (by omega)) rfl rfl (by rfl) (by rfl) rfl rfl rfl rfl ?_
    refine WO.nil (qs (W.region (pE rfl (aE [0] [5] rfl rfl rfl rfl rfl (dY (c:=58) (s:=T++bytesOf (cD k)++bytesOf (bY (ah s))) (m:=B #[58]) (r:=T++bytesOf (cD k)++bytesOf (eQ j k)) (by rw[O,←jZ];rfl) rfl (eD 58).2 (by rw[ea];omega)) rfl rfl (by rfl) (by rfl) rfl rfl rfl rfl ?_))));refine WO.nil (qs (W.region (pE rfl (pE rfl (aE [0] [7] rfl rfl rfl rfl rfl (a7 (t:=T++bytesOf (cD k)++bytesOf (eQ j k)) (r:=T++bytesOf (cD k)++bytesOf (eQ j k)++bytesOf (aq z)) rfl (by rw[ea];omega)) rfl rfl (by rfl) (by rfl) rfl rfl rfl rfl ?_)))));refine WO.nil (bz (qs (W.region ?_)));iterate 2 refine pE rfl ?_
    refine WO.nil (W.bU [0,9,2] ⟨(k+1,T++bytesOf (cD k)++bytesOf (eQ j k)++bytesOf (aq z)),?_⟩ ?_ rfl ?_ ⟨rfl,rfl,rfl,rfl,rfl,rfl,trivial⟩ ?_ trivial rfl);·exact⟨N,hN⟩
    ·dsimp only;omega
    ·repeat' first | exact trivial | refine⟨rfl,?_⟩ | refine⟨aP (by assumption) (by assumption),?_⟩
    repeat' first | exact trivial | refine⟨rfl,?_⟩
   exfalso;simp at J;omega
  have e:k=j.kids.length:=by have:=congrArg List.length hd;simp at this;omega
  have cj:T.size=t.size+(eR j k).length+1:=by rw[Z,ea];rfl
  have b0:T++B #[125]=t++bytesOf (aq j):=by rw[Z,hg,b2,show(B #[125])=bytesOf [125] from rfl,jZ,e];rfl
  rw[hg] at M;simp only[List.length_cons,List.length_append,List.length_nil] at M;rw[←e] at M;refine W.exit (bb (be (ba (qs (W.region ?_)))));iterate 2 refine pE rfl ?_
  refine pu (dM (b:=125) aa rfl rfl rfl rfl (by decide) rfl) rfl ?_;refine aE [0] [1] rfl rfl rfl rfl rfl ((dY (c:=125) (s:=T) (m:=B #[125]) (r:=t++bytesOf (aq j)) b0 rfl (eD 125).2 (by omega))) rfl rfl (by rfl) (by rfl) rfl rfl rfl rfl ?_;refine WO.nil (bz (b4.end aa [4] trivial rfl rfl rfl rfl ?_ ?_));·exact⟨rfl,trivial⟩
  rfl
 exfalso;simp at a6;omega
theorem xZ (j:JV) (u:Bool) (t:ByteArray) (ih:∀ z∈j.kids,∀ (u:Bool) (t r:ByteArray),t++bytesOf (aq z)=r→t.size+2*(aq z).length+2≤140737488355328→bp Tryz.prog 89 [.ptr 0 0,.ag z.c] [[.np 0 tB u,.bf 1 tU t]] 1 (.tup []) [[.np 0 tB true,.bf 1 tU r]] 1) (cx:1≤j.op∧j.op≤6) (a7:j.op=2→j.n=0∨j.n=1) (a8:j.op=3→cY j.n=true) (M:j.op=6→j.keys.length=j.kids.length) (N:t.size+2*(aq j).length+2≤140737488355328) (ho:¬ j.op=6) :
 bp Tryz.prog 89 [.ptr 0 0,.ag j.c] [[.np 0 tB u,.bf 1 tU t]] 1 (.tup []) [[.np 0 tB true,.bf 1 tU (t++bytesOf (aq j))]] 1:=by
 have hO:lA j=91:=if_neg ho;have b2:qG j=93:=if_neg ho;rw[hJ j];refine bp.cZ aa (n:=74) (rs:=[]) Tryz.func89 (by kernel_rfl) rfl Tryz.ntmps89 Tryz.results89 rfl rfl fun C hC hG=>?_;refine W.seq (W.region (cw rfl rfl rfl (WO.nil (qs (W.seq (W.region (pE rfl (pE rfl (WO.nil (qs (W.block (W.seq (W.region ?_)))))))))))));iterate 2 refine pE rfl ?_
 refine WO.nil (qs (an rfl (fun X=>?_) (fun X=>?_)));·
  have e:j.op=1:=by simpa using X
  have I:=Ec e;have cy:(aq j).length=4:=by rw[I]<;>rfl
  refine W.region (pE rfl (aE [0] [1] rfl rfl rfl rfl rfl ((jM (s:=t) (x:=B #[110,117,108,108]) (r:=t++bytesOf (aq j)) (by rw[I];rfl) (by rw[show(B #[110,117,108,108]).size=4 from rfl];omega))) rfl rfl (by rfl) (by rfl) rfl rfl rfl rfl ?_));refine WO.nil (bz (b4.end aa [4] trivial rfl rfl rfl rfl ?_ ?_));·exact⟨rfl,trivial⟩
  rfl
 have e1:j.op≠1:=by simpa using X
 refine W.seq (W.region ?_);iterate 2 refine pE rfl ?_
 refine WO.nil (qs (an rfl (fun Z=>?_) (fun Z=>?_)));·
  have e:j.op=2:=by simpa using Z
  have I:=EP e;have b3:=a7 e;refine W.region (pE rfl (pu (aZ aa rfl rfl rfl rfl rfl rfl rfl rfl rfl) rfl ?_));refine pE rfl (pE rfl (pu (indexAddr (l:=[cs (bytesOf (if j.n=1 then je else gK))]) aa rfl rfl rfl rfl rfl rfl (by omega) (Ff b3) rfl) rfl ?_));refine pE rfl (aE [0] [1] rfl rfl rfl rfl rfl ((jM (s:=t) (x:=bytesOf (if j.n=1 then je else gK)) (r:=t++bytesOf (aq j)) (by rw[I]) (by rw[I] at N;rw[qW];omega))) rfl rfl (by rfl) (by rfl) rfl rfl rfl rfl ?_);refine WO.nil (bz (b4.end aa [4] trivial rfl rfl rfl rfl ?_ ?_));·exact⟨rfl,trivial⟩
  rfl
 have e2:j.op≠2:=by simpa using Z
 refine W.seq (W.region ?_);iterate 2 refine pE rfl ?_
 refine WO.nil (qs (an rfl (fun ad=>?_) (fun ad=>?_)));·
  have e:j.op=3:=by simpa using ad
  have I:=Em e;have hi:=Ek (a8 e);refine W.region ?_;iterate 2 refine pE rfl ?_
  refine pE rfl (pu (ay rfl rfl rfl (lZ j.n hi.1 hi.2) rfl) rfl ?_);refine aE [0] [1] rfl rfl rfl rfl rfl ((jM (s:=t) (x:=cT j.n) (r:=t++bytesOf (aq j)) (by rw[I,jH]) (by rw[I,aw] at N;omega))) rfl rfl (by rfl) (by rfl) rfl rfl rfl rfl ?_;refine WO.nil (bz (b4.end aa [4] trivial rfl rfl rfl rfl ?_ ?_));·exact⟨rfl,trivial⟩
  rfl
 have e3:j.op≠3:=by simpa using ad
 refine W.seq (W.region ?_);iterate 2 refine pE rfl ?_
 refine WO.nil (qs (an rfl (fun ai=>?_) (fun ai=>?_)));·
  have e:j.op=4:=by simpa using ai
  have I:=EV e;have hq:=uP j.s;refine W.region ?_;iterate 2 refine pE rfl ?_
  refine pE rfl (aE [0] [1] rfl rfl rfl rfl rfl ((kJ (t:=t) (s:=j.s) (r:=t++bytesOf (aq j)) (by rw[I]) (by rw[I] at N;omega))) rfl rfl (by rfl) (by rfl) rfl rfl rfl rfl ?_);refine WO.nil (bz (b4.end aa [4] trivial rfl rfl rfl rfl ?_ ?_));·exact⟨rfl,trivial⟩
  rfl
 have e4:j.op≠4:=by simpa using ai
 have I:=rb e1 e2 e3 e4 M;refine W.seq (W.region (pE rfl (WO.nil (qs ?_))));iterate 2 refine W.seq ?_
 refine W.region (pE rfl (pE rfl (pE rfl (WO.nil (qs (an rfl (fun a6=>?_) (fun a6=>?_)))))));·exfalso;simp at a6;omega
 refine W.skip (qs (W.seq (W.region ?_)));iterate 2 refine pE rfl ?_
 refine pu (dM (b:=91) aa rfl rfl rfl rfl (by decide) rfl) rfl ?_;refine aE [0] [1] rfl rfl rfl rfl rfl ((dY (c:=91) (s:=t) (m:=B #[91]) (r:=t++bytesOf [91]) rfl rfl (eD 91).2 (by omega))) rfl rfl (by rfl) (by rfl) rfl rfl rfl rfl ?_;refine WO.nil (qs ?_);iterate 2 refine W.seq ?_
 refine W.region (pE rfl (pE rfl ?_));iterate 2 refine pE rfl ?_
 refine WO.nil (qs (W.block (W.len (t:=17) rfl rfl (fun hlen=>?_))));try simp only[List.length_map,Ex.aF] at hlen
 refine W.bF (ι:={x:Nat×ByteArray // match x with | (k,T)=>k≤j.kids.length∧T=t++bytesOf (lA j::eR j k)})
  (fun x=>match x.1 with | (k,T)=>[(0,.ptr 0 0),(3,.ptr 2 0),(19,.d (.v (.int .i64 ((k:Nat):Int))))]) [(4,_),(17,_),(18,_)]
  (fun x=>match x.1 with | (k,T)=>[(0,[.np 0 tB true,.bf 1 tU T]),(2,[.d (ci j.op),.d (ci j.n),.d (cs j.s),.d (.sl (j.keys.map sc)),.d (.sl (j.kids.map JV.c))])]) [] [1] 3 (fun x=>match x.1 with | (k,T)=>j.kids.length - k)
  [0,4,2] ⟨(0,t++bytesOf [91]),?_⟩ rfl ?_ ⟨rfl,rfl,rfl,rfl,rfl,rfl,trivial⟩ ?_ trivial rfl ?_
 ·exact⟨Nat.zero_le _,by rw[tF,hO]⟩
 ·repeat' first | exact trivial | refine⟨rfl,?_⟩
 ·repeat' first | exact trivial | refine⟨rfl,?_⟩
 rintro⟨⟨k,T⟩,hk,hI⟩;show W _ _ _ _ _ ⟨[(0,.ptr 0 0),(3,.ptr 2 0),(19,.d (.v (.int .i64 ((k:Nat):Int)))),(4,_),(17,_),(18,_)],[(0,[.np 0 tB true,.bf 1 tU T]),(2,[.d (ci j.op),.d (ci j.n),.d (cs j.s),.d (.sl (j.keys.map sc)),.d (.sl (j.kids.map JV.c))])],[1],3⟩;refine W.seq (W.region (pE rfl (WO.nil (qs (W.seq (ca (l:=j.kids) (k:=k) rfl (by simp[Ex.aF,aw]) hk (fun z hx hd aj=>?_) (fun he hd=>?_)))))));·
  have hp:=sH hx M;have ch:=lC hx M;have c1:k < j.kids.length:=aj;rw[I] at N;simp only[List.length_cons,List.length_append,List.length_nil] at N;have cj:T.size=t.size+(eR j k).length+1:=by rw[hI,ea];rfl
  have U:∀ {u:Bool} {t r:ByteArray},t++bytesOf (aq z)=r→t.size+2*(aq z).length+2≤140737488355328→bp Tryz.prog 89 [.ptr 0 0,.ag z.c] [[.np 0 tB u,.bf 1 tU t]] 1 (.tup []) [[.np 0 tB true,.bf 1 tU r]] 1:=fun {u t r}=>ih z (List.mem_of_getElem? hx) u t r;have hN:T++bytesOf (cD k)++bytesOf (eQ j k)++bytesOf (aq z)=t++bytesOf (lA j::eR j (k+1)):=by rw[hI,jZ,jZ,jZ,ch];simp only[List.append_assoc,List.cons_append]
  have cq:(cD k).length≤1:=by unfold cD;split <;> simp
  have J:T++bytesOf (cD k)++bytesOf (eQ j k)=T++bytesOf (cD k):=by rw[show eQ j k=[] from if_neg ho];exact iH (by show ah _=ah _;rw[gC];simp)
  have c6:(T++bytesOf (cD k)).size≤T.size+1:=by rw[ea];omega
  refine W.skip (qs (W.seq (W.block (W.seq (W.region (pE rfl (pu (indexAddr (l:=z.c) aa rfl rfl rfl rfl rfl rfl (Int.natCast_nonneg _) (aV hx) rfl) rfl ?_)))))));refine pE rfl (aL aa rfl rfl rfl (pE rfl (ax aa rfl rfl rfl rfl rfl rfl rfl rfl (WO.nil (qs ?_)))));iterate 2 refine W.seq ?_
  refine W.region ?_;iterate 2 refine pE rfl ?_
  refine WO.nil (qs (an rfl (fun a1=>?_) (fun a1=>?_)));·
   have cl:bytesOf (cD k)=B #[44]:=by unfold cD;rw[if_neg (by simp at a1;omega)];rfl
   refine W.region (pE rfl (aE [0] [1] rfl rfl rfl rfl rfl ((dY (c:=44) (s:=T) (m:=B #[44]) (r:=T++bytesOf (cD k)) (by rw[cl]) rfl (eD 44).2 (by omega))) rfl rfl (by rfl) (by rfl) rfl rfl rfl rfl ?_));refine WO.nil (qs ?_);iterate 2 refine W.seq ?_
   refine W.region (pE rfl (pE rfl (pE rfl (WO.nil (qs (an rfl (fun O=>?_) (fun O=>?_)))))));·exfalso;simp at O;omega
   refine W.skip (qs (W.region (pE rfl (pE rfl ?_))));first | refine aE [0] [5] rfl rfl rfl rfl rfl (U (r:=T++bytesOf (cD k)++bytesOf (eQ j k)++bytesOf (aq z)) (by first | (rw[J];done) | rw[J,hs]) (by omega)) rfl rfl (by rfl) (by rfl) rfl rfl rfl rfl ?_ | refine aE [0] [1] rfl rfl rfl rfl rfl (U (r:=T++bytesOf (cD k)++bytesOf (eQ j k)++bytesOf (aq z)) (by first | (rw[J];done) | rw[J,hs]) (by omega)) rfl rfl (by rfl) (by rfl) rfl rfl rfl rfl ?_
   refine WO.nil (bz (qs (W.region ?_)));iterate 2 refine pE rfl ?_
   refine WO.nil (W.bU [0,7,2] ⟨(k+1,T++bytesOf (cD k)++bytesOf (eQ j k)++bytesOf (aq z)),?_⟩ ?_ rfl ?_ ⟨rfl,rfl,rfl,rfl,rfl,rfl,trivial⟩ ?_ trivial rfl);·exact⟨aj,hN⟩
   ·dsimp only;omega
   ·repeat' first | exact trivial | refine⟨rfl,?_⟩ | refine⟨aP (by assumption) (by assumption),?_⟩
   repeat' first | exact trivial | refine⟨rfl,?_⟩
  have hs:T++bytesOf (cD k)=T:=by unfold cD;rw[if_pos (by simp at a1;omega)];exact iH (by show ah _=ah _;rw[gC];simp)
  refine W.skip (qs ?_);iterate 2 refine W.seq ?_
  refine W.region (pE rfl (pE rfl (pE rfl (WO.nil (qs (an rfl (fun O=>?_) (fun O=>?_)))))));·exfalso;simp at O;omega
  refine W.skip (qs (W.region (pE rfl (pE rfl ?_))));first | refine aE [0] [5] rfl rfl rfl rfl rfl (U (r:=T++bytesOf (cD k)++bytesOf (eQ j k)++bytesOf (aq z)) (by first | (rw[J];done) | rw[J,hs]) (by omega)) rfl rfl (by rfl) (by rfl) rfl rfl rfl rfl ?_ | refine aE [0] [1] rfl rfl rfl rfl rfl (U (r:=T++bytesOf (cD k)++bytesOf (eQ j k)++bytesOf (aq z)) (by first | (rw[J];done) | rw[J,hs]) (by omega)) rfl rfl (by rfl) (by rfl) rfl rfl rfl rfl ?_
  refine WO.nil (bz (qs (W.region ?_)));iterate 2 refine pE rfl ?_
  refine WO.nil (W.bU [0,5,2] ⟨(k+1,T++bytesOf (cD k)++bytesOf (eQ j k)++bytesOf (aq z)),?_⟩ ?_ rfl ?_ ⟨rfl,rfl,rfl,rfl,rfl,rfl,trivial⟩ ?_ trivial rfl);·exact⟨aj,hN⟩
  ·dsimp only;omega
  ·repeat' first | exact trivial | refine⟨rfl,?_⟩ | refine⟨aP (by assumption) (by assumption),?_⟩
  repeat' first | exact trivial | refine⟨rfl,?_⟩
 have e:k=j.kids.length:=by have:=congrArg List.length hd;simp at this;omega
 have cj:T.size=t.size+(eR j k).length+1:=by rw[hI,ea];rfl
 have b0:T++B #[93]=t++bytesOf (aq j):=by rw[hI,I,b2,show(B #[93])=bytesOf [93] from rfl,jZ,e];rfl
 rw[I] at N;simp only[List.length_cons,List.length_append,List.length_nil] at N;rw[←e] at N;refine W.exit (bb (be (ba (qs (W.region ?_)))));iterate 2 refine pE rfl ?_
 refine pu (dM (b:=93) aa rfl rfl rfl rfl (by decide) rfl) rfl ?_;refine aE [0] [1] rfl rfl rfl rfl rfl ((dY (c:=93) (s:=T) (m:=B #[93]) (r:=t++bytesOf (aq j)) b0 rfl (eD 93).2 (by omega))) rfl rfl (by rfl) (by rfl) rfl rfl rfl rfl ?_;refine WO.nil (bz (b4.end aa [4] trivial rfl rfl rfl rfl ?_ ?_));·exact⟨rfl,trivial⟩
 rfl
theorem zQ:∀ (j:JV) (lv:Int),aX j lv=0→∀ (u:Bool) (t r:ByteArray),t++bytesOf (aq j)=r→t.size+2*(aq j).length+2≤140737488355328→bp Tryz.prog 89 [.ptr 0 0,.ag j.c] [[.np 0 tB u,.bf 1 tU t]] 1 (.tup []) [[.np 0 tB true,.bf 1 tU r]] 1:=by
 refine JV.ind fun j U=>?_;intro lv Z u t r e X;subst e;obtain⟨O,M,N,I,J⟩:=F9 Z;by_cases ho:j.op=6;·exact yL j u t (fun z h1=>U z h1 _ (J z h1)) O M N I X ho
 exact xZ j u t (fun z h1=>U z h1 _ (J z h1)) O M N I X ho
end Go.Proofs.YtpiaiiopakafhaaGreatDoor
namespace Go.Proofs.YtpiaiiopakafhaaGreatDoor
open Go.Ab Go.Tb
set_option maxRecDepth 10000
set_option maxHeartbeats 1000000
attribute [local irreducible] W WO Pu QS QB QL QF QV bu CH QE
def gL (j:JV):ByteArray:=if aX j 1=0 then bytesOf (aq j) else B #[]
theorem xP (j:JV) (O:aX j 1=0→(aq j).length≤1000000000000):pf Tryz.prog (fun _=>True) 38 [.ag j.c] (.tup [.d (.v (.string (gL j))),.d (.v (.int .i64 (aX j 1)))]) 0:=by
 have M:=sR j;rw[hJ j] at M ⊢;refine pf.cZ aa (n:=14) (rs:=[.tmp 2,.tmp 3]) Tryz.func38 (by kernel_rfl) rfl Tryz.ntmps38 Tryz.results38 rfl fun C hC X Z N=>?_;refine W.seq (W.region (cw rfl rfl rfl ?_));iterate 2 refine pE rfl ?_
 refine WO.nil (qs ?_);iterate 2 refine W.seq ?_
 refine W.region (pE rfl (pu (ay rfl rfl rfl M rfl) rfl ?_));refine pE rfl (WO.nil (qs (W.seq (W.region ?_))));iterate 2 refine pE rfl ?_
 refine WO.nil (qs (an rfl (fun I=>?_) (fun I=>?_)));·
  have J:gL j=B #[]:=by unfold gL;rw[if_neg (by simpa using I)]
  refine W.seq (W.region ?_);iterate 3 refine pE rfl ?_
  refine WO.nil (qs (W.ret (aA (QV.aB aa trivial rfl ?_))));rw[J];rfl
 have h0:aX j 1=0:=by simpa using I
 have J:gL j=bytesOf (aq j):=by unfold gL;rw[if_pos h0]
 have U:=O h0;refine W.skip (qs (W.seq (W.region (Ag aa tU rfl rfl rfl ?_))));refine WO.nil (qs (W.seq (W.region (pE rfl (aE [1] [2] rfl rfl rfl rfl rfl (((congrArg (fun c=>bp Tryz.prog 89 [.ptr 0 0,.ag c] [[.np 0 tB false,.bf 1 tU .empty]] 1 (.tup []) [[.np 0 tB true,.bf 1 tU (bytesOf (aq j))]] 1) (hJ j)).mp (zQ j 1 h0 false .empty (bytesOf (aq j)) (iH rfl) (by rw[show(ByteArray.empty).size=0 from rfl];omega)))) rfl rfl (by rfl) (by rfl) rfl rfl rfl rfl ?_)))));refine WO.nil (qs (W.seq (W.region (Eg N rfl rfl rfl rfl An xD (by rw[qW];simp only[maxLen];omega) rfl ?_))));iterate 2 refine pE rfl ?_
 refine WO.nil (qs (W.ret (QV.aB aa trivial rfl ?_)));rw[J,h0];rfl
theorem y9 (j:JV) (I:aX j 1=0→(aq j).length≤1000000000000):az Tryz.prog 38 [.ag j.c] (.tup [.d (.v (.string (gL j))),.d (.v (.int .i64 (aX j 1)))]) 0:=(xP j I).Bj fun _=>trivial
end Go.Proofs.YtpiaiiopakafhaaGreatDoor
namespace Go.Proofs.YtpiaiiopakafhaaGreatDoor
open Go.Ab Go.Tb
set_option maxRecDepth 10000
set_option maxHeartbeats 1000000
attribute [local irreducible] W WO Pu QS QB QL QF QV bu CH QE
def jj (ts:List bJ) (ps:List aW):ByteArray×Int:=
 if (cQ ts ps).2≠0 then (aY,(cQ ts ps).2) else if aX (eh ts ps) 1≠0 then (aY,aX (eh ts ps) 1) else if 65536 < (gL (eh ts ps)).size then (aY,7) else (gL (eh ts ps),0)
theorem nj (ts:List bJ) (ps:List aW) (ok:rG ts ps) (hz:aX (eh ts ps) 1=0→(aq (eh ts ps)).length≤1000000000000):az Tryz.prog 15 [.ag (iF.c ⟨ts,dq,ps⟩)] (.tup [.d (cs (jj ts ps).1),.d (ci (jj ts ps).2)]) 0:=by
 refine az.bl (n:=97) (ts:=[2,3]) Tryz.func15 (by kernel_rfl) rfl Tryz.ntmps15 Tryz.results15 rfl rfl fun C hC hG=>?_;refine W.seq (W.region (cw rfl rfl rfl ?_));iterate 2 refine pE rfl ?_
 refine WO.nil (qs ?_);iterate 2 refine W.seq ?_
 refine W.region (pE rfl (pu (ay rfl rfl rfl (tR ts ps ok) rfl) rfl ?_));refine pE rfl (WO.nil (qs (W.seq (W.region ?_))));iterate 2 refine pE rfl ?_
 refine WO.nil (qs (an rfl (fun ai=>?_) (fun ai=>?_)));·
  have U:jj ts ps=(aY,(cQ ts ps).2):=by unfold jj;rw[if_pos (by simpa using ai)]
  refine W.seq (W.region ?_);iterate 3 refine pE rfl ?_
  refine WO.nil (qs (W.ret (aA (QF.aB trivial rfl ?_))));rw[U];rfl
 have h0:¬ (cQ ts ps).2≠0:=by simpa using ai
 refine W.skip (qs ?_);iterate 2 refine W.seq ?_
 apply aO;(case hb=>rfl);·
  iterate 2 refine pE rfl ?_
  refine pE rfl ?_;iterate 3 refine pE rfl ?_
  apply eY;(case hj=>rfl);(case hl=>rfl);·
   intro g24;iterate 5 refine aD rfl rfl rfl rfl ?_
   refine pE rfl (WO.nil (bt rfl rfl rfl))
  intro g24;refine aG rfl rfl (pE rfl (aG rfl rfl (pE rfl (aG rfl rfl (pE rfl (aG rfl rfl (pE rfl (aG rfl rfl ?_))))))));iterate 2 refine pE rfl ?_
  refine WO.nil (bt rfl rfl rfl)
 refine qs (an rfl (fun a6=>?_) (fun a6=>?_));·exfalso;simp[dq] at a6
 refine W.skip (qs ?_);iterate 2 refine W.seq ?_
 refine W.region (pE rfl (pu (ay rfl rfl rfl (Dv ts ps ok) rfl) rfl ?_));iterate 2 refine pE rfl ?_
 refine WO.nil (qs (an rfl (fun a7=>?_) (fun a7=>?_)));·exfalso;simp at a7
 refine W.skip (qs (W.seq (W.region (pu (build aa rfl rfl rfl rfl) rfl ?_))));refine aL aa rfl rfl rfl (ax aa rfl rfl rfl rfl rfl rfl rfl rfl (WO.nil (qs ?_)));iterate 2 refine W.seq ?_
 obtain⟨hh,b3⟩:=mg (ts:=ts) (ps:=ps) (by simpa using h0);obtain⟨_,_,cy⟩:=qo hh;have cx:=ok.2.2;have b2:=lW b3;refine W.region ?_;iterate 2 refine pE rfl ?_
 refine pE rfl ?_;iterate 2 refine pE rfl ?_
 refine WO.nil (qs (W.block (gr 1 3 rfl rfl rfl ?_)));refine eg 1 4 rfl rfl rfl ?_;refine W.len (t:=38) rfl rfl (fun hlen=>?_);try simp only[List.length_map,Ex.aF] at hlen
 refine W.bF (ι:={x:Nat×List JV // match x with | (k,acc)=>k≤ts.length∧acc=(ts.take k).map mJ})
  (fun x=>match x.1 with | (k,acc)=>[(1,.ptr 0 0),(5,.ptr 1 0),(40,.d (.v (.int .i64 ((k:Nat):Int))))]) [(38,_),(39,_)]
  (fun x=>match x.1 with | (k,acc)=>[(0,(iF.c ⟨ts,dq,ps⟩).map A.d),(1,[.d (ci 5),.d (ci 0),.d (cs aY),.d (.sl []),.own 2 (acc.map JV.c)])]) [] [2] 3 (fun x=>match x.1 with | (k,acc)=>ts.length - k)
  [0,1,2] ⟨(0,[]),?_⟩ rfl ?_ ⟨rfl,rfl,rfl,rfl,trivial⟩ ?_ trivial rfl ?_
 ·exact⟨Nat.zero_le _,rfl⟩
 ·repeat' first | exact trivial | refine⟨rfl,?_⟩
 ·repeat' first | exact trivial | refine⟨rfl,?_⟩
 rintro⟨⟨k,acc⟩,hk,X⟩;show W _ _ _ _ _ ⟨[(1,.ptr 0 0),(5,.ptr 1 0),(40,.d (.v (.int .i64 ((k:Nat):Int)))),(38,_),(39,_)],[(0,(iF.c ⟨ts,dq,ps⟩).map A.d),(1,[.d (ci 5),.d (ci 0),.d (cs aY),.d (.sl []),.own 2 (acc.map JV.c)])],[2],3⟩;have c1:acc.length≤64:=by rw[X,List.length_map,List.length_take];omega
 refine W.seq (W.region (pE rfl (WO.nil (qs (W.seq (ca (l:=ts) (k:=k) rfl (by simp[Ex.aF,aw]) hk (fun t N hd O=>?_) (fun he hd=>?_)))))));·
  refine W.skip (qs (W.seq (W.block (W.seq (W.region (pu (indexAddr (l:=t.c) aa rfl rfl rfl rfl rfl rfl (Int.natCast_nonneg _) (aV N) rfl) rfl ?_))))));refine pE rfl (aL aa rfl rfl rfl (ax aa rfl rfl rfl rfl rfl rfl rfl rfl (WO.nil (qs (W.oX aa [] [] [] [] 13 (by kernel_rfl) (by kernel_rfl) rfl rfl ?_)))));refine' aQ (ev aa rfl) ?p_1 rfl rfl rfl (by kernel_rfl) rfl ?h_1;case' h_1=>skip
  case p_1=>refine⟨fun I=>(ab I (by kernel_rfl)).elim,?_⟩ <;> intro I <;> first | exact⟨ev aa rfl,fun h=>nomatch h⟩ | exact(ab I (by kernel_rfl)).elim
  refine' aQ (ev aa rfl) ?p_2 rfl rfl rfl (by kernel_rfl) rfl ?h_2;case' h_2=>skip
  case p_2=>refine⟨fun I=>(ab I (by kernel_rfl)).elim,?_⟩ <;> intro I <;> first | exact⟨ev aa rfl,fun h=>nomatch h⟩ | exact⟨dD aa rfl rfl rfl rfl,fun h=>nomatch h⟩ | exact⟨dE aa rfl rfl rfl rfl rfl,fun h=>nomatch h⟩ | exact(ab I (by kernel_rfl)).elim
  refine' aQ (aZ aa rfl rfl rfl rfl rfl rfl rfl rfl rfl) ?p_3 rfl rfl rfl (by kernel_rfl) rfl ?h_3;case' h_3=>skip
  case p_3=>refine⟨fun I=>(ab I (by kernel_rfl)).elim,?_⟩ <;> intro I <;> first | exact⟨aZ aa rfl rfl rfl rfl rfl rfl rfl rfl rfl,fun h=>nomatch h⟩ | exact(ab I (by kernel_rfl)).elim
  refine' aQ (ay rfl rfl rfl (gN ..) rfl) ?p_4 rfl rfl rfl (by kernel_rfl) rfl ?h_4;case' h_4=>skip
  case p_4=>refine⟨fun I=>(ab I (by kernel_rfl)).elim,?_⟩ <;> intro I <;> first | exact⟨ay rfl rfl rfl (gN ..) rfl,fun h=>nomatch h⟩ | exact(ab I (by kernel_rfl)).elim
  refine' aQ (ev aa rfl) ?p_5 rfl rfl rfl (by kernel_rfl) rfl ?h_5;case' h_5=>skip
  case p_5=>refine⟨fun I=>(ab I (by kernel_rfl)).elim,?_⟩ <;> intro I <;> first | exact⟨ev aa rfl,fun h=>nomatch h⟩ | exact(ab I (by kernel_rfl)).elim
  refine' aQ (ev aa rfl) ?p_6 rfl rfl rfl (by kernel_rfl) rfl ?h_6;case' h_6=>skip
  case p_6=>refine⟨fun I=>(ab I (by kernel_rfl)).elim,?_⟩ <;> intro I <;> first | exact⟨ev aa rfl,fun h=>nomatch h⟩ | exact⟨dD aa rfl rfl rfl rfl,fun h=>nomatch h⟩ | exact⟨dE aa rfl rfl rfl rfl rfl,fun h=>nomatch h⟩ | exact(ab I (by kernel_rfl)).elim
  refine' aQ (ay rfl rfl rfl (gU ..) rfl) ?p_7 rfl rfl rfl (by kernel_rfl) rfl ?h_7;case' h_7=>skip
  case p_7=>refine⟨fun I=>(ab I (by kernel_rfl)).elim,?_⟩ <;> intro I <;> first | exact⟨ay rfl rfl rfl (gU ..) rfl,fun h=>nomatch h⟩ | exact(ab I (by kernel_rfl)).elim
  refine' aQ (ev aa rfl) ?p_8 rfl rfl rfl (by kernel_rfl) rfl ?h_8;case' h_8=>skip
  case p_8=>refine⟨fun I=>(ab I (by kernel_rfl)).elim,?_⟩ <;> intro I <;> first | exact⟨ev aa rfl,fun h=>nomatch h⟩ | exact(ab I (by kernel_rfl)).elim
  refine' aQ (ev aa rfl) ?p_9 rfl rfl rfl (by kernel_rfl) rfl ?h_9;case' h_9=>skip
  case p_9=>refine⟨fun I=>(ab I (by kernel_rfl)).elim,?_⟩ <;> intro I <;> first | exact⟨ev aa rfl,fun h=>nomatch h⟩ | exact⟨dD aa rfl rfl rfl rfl,fun h=>nomatch h⟩ | exact⟨dE aa rfl rfl rfl rfl rfl,fun h=>nomatch h⟩ | exact(ab I (by kernel_rfl)).elim
  refine' aQ (ay rfl rfl rfl (gN ..) rfl) ?p_10 rfl rfl rfl (by kernel_rfl) rfl ?h_10;case' h_10=>skip
  case p_10=>refine⟨fun I=>(ab I (by kernel_rfl)).elim,?_⟩ <;> intro I <;> first | exact⟨ay rfl rfl rfl (gN ..) rfl,fun h=>nomatch h⟩ | exact(ab I (by kernel_rfl)).elim
  refine' aQ (aZ aa rfl rfl rfl rfl rfl rfl rfl rfl rfl) ?p_11 rfl rfl rfl (by kernel_rfl) rfl ?h_11;case' h_11=>skip
  case p_11=>refine⟨fun I=>(ab I (by kernel_rfl)).elim,?_⟩ <;> intro I <;> first | exact⟨aZ aa rfl rfl rfl rfl rfl rfl rfl rfl rfl,fun h=>nomatch h⟩ | exact(ab I (by kernel_rfl)).elim
  refine' aQ (build aa rfl rfl rfl rfl) ?p_12 rfl rfl rfl (by kernel_rfl) rfl ?h_12;case' h_12=>skip
  case p_12=>refine⟨fun I=>(ab I (by kernel_rfl)).elim,?_⟩ <;> intro I <;> first | exact⟨build aa rfl rfl rfl rfl,fun h=>nomatch h⟩ | exact(ab I (by kernel_rfl)).elim
  refine' aQ (aZ aa rfl rfl rfl rfl rfl rfl rfl rfl rfl) ?p_13 rfl rfl rfl (by kernel_rfl) rfl ?h_13;case' h_13=>skip
  case p_13=>refine⟨fun I=>(ab I (by kernel_rfl)).elim,?_⟩ <;> intro I <;> first | exact⟨aZ aa rfl rfl rfl rfl rfl rfl rfl rfl rfl,fun h=>nomatch h⟩ | exact(ab I (by kernel_rfl)).elim
  refine CD.nil ?_ rfl;refine eu (fn:=JV.c) (a:=mJ t) aa rfl rfl rfl rfl rfl rfl rfl rfl rfl rfl (fun _=>rfl) (by show(acc.length+1)*80≤_;omega) ?_;refine pE rfl (ax aa rfl rfl rfl rfl rfl rfl rfl rfl (WO.nil (bz (qs (W.region ?_)))));iterate 2 refine pE rfl ?_
  refine WO.nil (W.bU [0,1,4] ⟨(k+1,acc++[mJ t]),?_⟩ ?_ rfl ?_ ⟨rfl,rfl,rfl,rfl,trivial⟩ ?_ trivial rfl);·exact⟨O,by rw[List.take_add_one,N,List.map_append,X];rfl⟩
  ·dsimp only;omega
  ·repeat' first | exact trivial | refine⟨rfl,?_⟩ | refine⟨aP (by assumption) (by assumption),?_⟩
  repeat' first | exact trivial | refine⟨rfl,?_⟩
 have hm:acc=ts.map mJ:=by rw[X,he,List.take_length]
 refine W.exit (bb (be (ba (qs ?_))));iterate 2 refine W.seq ?_
 refine W.region (pE rfl (pE rfl ?_));iterate 2 refine pE rfl ?_
 refine WO.nil (qs (W.block (W.len (t:=61) rfl rfl (fun hlen=>?_))));try simp only[List.length_map,Ex.aF] at hlen
 refine W.bF (ι:={x:Nat×List JV // match x with | (k,M)=>k≤ps.length∧M=ts.map mJ++(ps.take k).flatMap nZ})
  (fun x=>match x.1 with | (k,M)=>[(5,.ptr 0 0),(63,.d (.v (.int .i64 ((k:Nat):Int))))]) [(61,_),(62,_)]
  (fun x=>match x.1 with | (k,M)=>[(0,[.d (ci 5),.d (ci 0),.d (cs aY),.d (.sl []),.own 1 (M.map JV.c)])]) [] [1] 2 (fun x=>match x.1 with | (k,M)=>ps.length - k)
  [1,2] ⟨(0,acc),?_⟩ rfl ?_ ⟨rfl,rfl,rfl,rfl,trivial⟩ ?_ trivial rfl ?_
 ·exact⟨Nat.zero_le _,by rw[hm];simp⟩
 ·repeat' first | exact trivial | refine⟨rfl,?_⟩
 ·repeat' first | exact trivial | refine⟨rfl,?_⟩
 rintro⟨⟨k,M⟩,hk,Z⟩;show W _ _ _ _ _ ⟨[(5,.ptr 0 0),(63,.d (.v (.int .i64 ((k:Nat):Int)))),(61,_),(62,_)],[(0,[.d (ci 5),.d (ci 0),.d (cs aY),.d (.sl []),.own 1 (M.map JV.c)])],[1],2⟩;refine W.seq (W.region (pE rfl (WO.nil (qs (W.seq (ca (l:=ps) (k:=k) rfl (by simp[Ex.aF,aw]) hk (fun p N hd O=>?_) (fun he hd=>?_)))))));·
  have ch:=b2 p (List.mem_of_getElem? N);have c6:=(ok.2.1 p (List.mem_of_getElem? N)).2.2.2;refine W.skip (qs (W.seq (W.block (W.seq (W.region (pu (indexAddr (l:=p.c) aa rfl rfl rfl rfl rfl rfl (Int.natCast_nonneg _) (aV N) rfl) rfl ?_))))));refine pE rfl (aL aa rfl rfl rfl (ax aa rfl rfl rfl rfl rfl rfl rfl rfl (WO.nil (qs (W.seq (W.region (pE rfl (pE rfl ?_))))))));iterate 2 refine pE rfl ?_
  refine WO.nil (qs (W.block (W.len (t:=68) rfl rfl (fun hlen=>?_))));try simp only[List.length_map,Ex.aF] at hlen
  refine W.bF (ι:={x:Nat×List JV // match x with | (q,J)=>q≤p.evs.length∧J=M++(p.evs.take q).map (vK p.thread)})
   (fun x=>match x.1 with | (q,J)=>[(5,.ptr 0 0),(9,.ptr 1 0),(70,.d (.v (.int .i64 ((q:Nat):Int))))]) [(61,_),(62,_),(63,_),(68,_),(69,_)]
   (fun x=>match x.1 with | (q,J)=>[(0,[.d (ci 5),.d (ci 0),.d (cs aY),.d (.sl []),.own 2 (J.map JV.c)]),(1,p.c.map A.d)]) [] [2] 3 (fun x=>match x.1 with | (q,J)=>p.evs.length - q)
   [0,2,1] ⟨(0,M),?_⟩ rfl ?_ ⟨rfl,rfl,rfl,rfl,rfl,rfl,rfl,rfl,rfl,rfl,trivial⟩ ?_ trivial rfl ?_
  ·exact⟨Nat.zero_le _,by simp⟩
  ·repeat' first | exact trivial | refine⟨rfl,?_⟩
  ·repeat' first | exact trivial | refine⟨rfl,?_⟩
  rintro⟨⟨q,J⟩,cj,ad⟩;show W _ _ _ _ _ ⟨[(5,.ptr 0 0),(9,.ptr 1 0),(70,.d (.v (.int .i64 ((q:Nat):Int)))),(61,_),(62,_),(63,_),(68,_),(69,_)],[(0,[.d (ci 5),.d (ci 0),.d (cs aY),.d (.sl []),.own 2 (J.map JV.c)]),(1,p.c.map A.d)],[2],3⟩;have hk:=cj;have c7:J.length≤22000:=by rw[ad,Z,List.length_append,List.length_append,List.length_map,List.length_map,List.length_take];have:=za ps k;omega
  refine W.seq (W.region (pE rfl (WO.nil (qs (W.seq (ca (l:=p.evs) (k:=q) rfl (by simp[Ex.aF,aw]) hk (fun e N hd O=>?_) (fun he hd=>?_)))))));·
   obtain⟨f,hf,hw,a8⟩:=qS (ch e (List.mem_of_getElem? N)) p.thread;refine W.skip (qs (W.seq (W.block (W.seq (W.region (pu (indexAddr (l:=e.c) aa rfl rfl rfl rfl rfl rfl (Int.natCast_nonneg _) (aV N) rfl) rfl ?_))))));refine pE rfl (aL aa rfl rfl rfl (ax aa rfl rfl rfl rfl rfl rfl rfl rfl (WO.nil (qs (W.oX aa [] [] [] [] 7 (by kernel_rfl) (by kernel_rfl) rfl rfl ?_)))));refine' aQ (ev aa rfl) ?p_14 rfl rfl rfl (by kernel_rfl) rfl ?h_14;case' h_14=>skip
   case p_14=>refine⟨fun I=>(ab I (by kernel_rfl)).elim,?_⟩ <;> intro I <;> first | exact⟨ev aa rfl,fun h=>nomatch h⟩ | exact(ab I (by kernel_rfl)).elim
   refine' aQ (ev aa rfl) ?p_15 rfl rfl rfl (by kernel_rfl) rfl ?h_15;case' h_15=>skip
   case p_15=>refine⟨fun I=>(ab I (by kernel_rfl)).elim,?_⟩ <;> intro I <;> first | exact⟨ev aa rfl,fun h=>nomatch h⟩ | exact⟨dD aa rfl rfl rfl rfl,fun h=>nomatch h⟩ | exact⟨dE aa rfl rfl rfl rfl rfl,fun h=>nomatch h⟩ | exact(ab I (by kernel_rfl)).elim
   refine' aQ (ev aa rfl) ?p_16 rfl rfl rfl (by kernel_rfl) rfl ?h_16;case' h_16=>skip
   case p_16=>refine⟨fun I=>(ab I (by kernel_rfl)).elim,?_⟩ <;> intro I <;> first | exact⟨ev aa rfl,fun h=>nomatch h⟩ | exact(ab I (by kernel_rfl)).elim
   refine' aQ (ev aa rfl) ?p_17 rfl rfl rfl (by kernel_rfl) rfl ?h_17;case' h_17=>skip
   case p_17=>refine⟨fun I=>(ab I (by kernel_rfl)).elim,?_⟩ <;> intro I <;> first | exact⟨ev aa rfl,fun h=>nomatch h⟩ | exact⟨dD aa rfl rfl rfl rfl,fun h=>nomatch h⟩ | exact⟨dE aa rfl rfl rfl rfl rfl,fun h=>nomatch h⟩ | exact(ab I (by kernel_rfl)).elim
   refine' aQ (ev aa rfl) ?p_18 rfl rfl rfl (by kernel_rfl) rfl ?h_18;case' h_18=>skip
   case p_18=>refine⟨fun I=>(ab I (by kernel_rfl)).elim,?_⟩ <;> intro I <;> first | exact⟨ev aa rfl,fun h=>nomatch h⟩ | exact⟨dD aa rfl rfl rfl rfl,fun h=>nomatch h⟩ | exact⟨dE aa rfl rfl rfl rfl rfl,fun h=>nomatch h⟩ | exact(ab I (by kernel_rfl)).elim
   refine' aQ (ay rfl rfl rfl (rA p.thread e f hf a8) rfl) ?p_19 rfl rfl rfl (by kernel_rfl) rfl ?h_19;case' h_19=>skip
   case p_19=>refine⟨fun I=>(ab I (by kernel_rfl)).elim,?_⟩ <;> intro I <;> first | exact⟨ay rfl rfl rfl (rA p.thread e f hf a8) rfl,fun h=>nomatch h⟩ | exact(ab I (by kernel_rfl)).elim
   refine' aQ (aZ aa rfl rfl rfl rfl rfl rfl rfl rfl rfl) ?p_20 rfl rfl rfl (by kernel_rfl) rfl ?h_20;case' h_20=>skip
   case p_20=>refine⟨fun I=>(ab I (by kernel_rfl)).elim,?_⟩ <;> intro I <;> first | exact⟨aZ aa rfl rfl rfl rfl rfl rfl rfl rfl rfl,fun h=>nomatch h⟩ | exact(ab I (by kernel_rfl)).elim
   refine CD.nil ?_ rfl;refine eu (fn:=JV.c) (a:=ep f p.thread e) aa rfl rfl rfl rfl rfl rfl rfl rfl rfl rfl (fun _=>rfl) (by show(J.length+1)*80≤_;omega) ?_;refine pE rfl (ax aa rfl rfl rfl rfl rfl rfl rfl rfl (WO.nil (bz (qs (W.region ?_)))));iterate 2 refine pE rfl ?_
   refine WO.nil (W.bU [0,1,4] ⟨(q+1,J++[ep f p.thread e]),?_⟩ ?_ rfl ?_ ⟨rfl,rfl,rfl,rfl,rfl,rfl,rfl,rfl,rfl,rfl,trivial⟩ ?_ trivial rfl);·exact⟨O,by rw[List.take_add_one,N,List.map_append,ad,←hw,List.append_assoc];rfl⟩
   ·dsimp only;omega
   ·repeat' first | exact trivial | refine⟨rfl,?_⟩ | refine⟨aP (by assumption) (by assumption),?_⟩
   repeat' first | exact trivial | refine⟨rfl,?_⟩
  have cl:J=ts.map mJ++(ps.take (k+1)).flatMap nZ:=by rw[ad,he,List.take_length,Z,List.take_add_one,N,List.flatMap_append,List.append_assoc];congr 2;simp[nZ]
  refine W.exit (bb (be (ba (bz (qs (W.region ?_))))));iterate 2 refine pE rfl ?_
  refine WO.nil (W.bU [0,2] ⟨(k+1,J),?_⟩ ?_ rfl ?_ ⟨rfl,rfl,rfl,rfl,trivial⟩ ?_ trivial rfl);·exact⟨O,cl⟩
  ·dsimp only;omega
  ·repeat' first | exact trivial | refine⟨rfl,?_⟩ | refine⟨aP (by assumption) (by assumption),?_⟩
  repeat' first | exact trivial | refine⟨rfl,?_⟩
 have cq:M=lV ts ps:=by rw[Z,he,List.take_length];rfl
 have hP:=y9 (eh ts ps) hz;rw[hJ] at hP;rw[show(eh ts ps).kids=M from cq.symm] at hP;refine W.exit (bb (be (ba (qs (W.seq (W.region (pE rfl (pu (ay rfl rfl rfl hP rfl) rfl ?_))))))));iterate 5 refine pE rfl ?_
 refine WO.nil (qs ?_);iterate 2 refine W.seq ?_
 refine W.region ?_;iterate 2 refine pE rfl ?_
 refine WO.nil (qs (an rfl (fun aj=>?_) (fun aj=>?_)));·
  have U:jj ts ps=(aY,aX (eh ts ps) 1):=by unfold jj;rw[if_neg h0,if_pos (by simpa using aj)]
  refine W.seq (W.region ?_);iterate 3 refine pE rfl ?_
  refine WO.nil (qs (W.ret (aA (QF.aB trivial rfl ?_))));rw[U];rfl
 have b0:¬ aX (eh ts ps) 1≠0:=by simpa using aj
 refine W.skip (qs ?_);iterate 2 refine W.seq ?_
 refine W.region ?_;iterate 3 refine pE rfl ?_
 refine WO.nil (qs (an rfl (fun a1=>?_) (fun a1=>?_)));·
  have U:jj ts ps=(aY,7):=by unfold jj;rw[if_neg h0,if_neg b0,if_pos (by simp at a1;omega)]
  refine W.seq (W.region ?_);iterate 2 refine pE rfl ?_
  refine WO.nil (qs (W.ret (aA (QF.aB trivial rfl ?_))));rw[U];rfl
 have U:jj ts ps=(gL (eh ts ps),0):=by unfold jj;rw[if_neg h0,if_neg b0,if_neg (by simp at a1;omega)]
 refine W.skip (qs (W.seq (W.region ?_)));iterate 3 refine pE rfl ?_
 refine WO.nil (qs (W.ret (QF.aB trivial rfl ?_)));rw[U];rfl
end Go.Proofs.YtpiaiiopakafhaaGreatDoor
namespace Go.Proofs.YtpiaiiopakafhaaGreatDoor
open Go.Ab Go.Tb
set_option maxRecDepth 10000
set_option maxHeartbeats 1000000
attribute [local irreducible] W WO Pu QS QB QL QF QV bu CH QE
end Go.Proofs.YtpiaiiopakafhaaGreatDoor
namespace Go.Proofs.YtpiaiiopakafhaaGreatDoor
open Go.Ab Go.Tb
set_option maxRecDepth 10000
set_option maxHeartbeats 1000000
attribute [local irreducible] W WO Pu QS QB QL QF QV bu CH QE
end Go.Proofs.YtpiaiiopakafhaaGreatDoor
namespace Go.Proofs.YtpiaiiopakafhaaGreatDoor
open Go.Ab Go.Tb
set_option maxRecDepth 10000
set_option maxHeartbeats 1000000
attribute [local irreducible] W WO Pu QS QB QL QF QV bu CH QE
end Go.Proofs.YtpiaiiopakafhaaGreatDoor
namespace Go.Proofs.YtpiaiiopakafhaaGreatDoor
open Go.Ab Go.Tb
set_option maxRecDepth 10000
set_option maxHeartbeats 1000000
attribute [local irreducible] W WO Pu QS QB QL QF QV bu CH QE
abbrev qP (g:Nat) (x:eV):List A:=[.own g (x.ids.map ic),.mp (g+1) (ee ik cs x.names),.mo (g+2) (fD ik Ev.c x.evs) none none]
theorem qY (x:eV) (id:Int) (M:sN 1000000 x):bp Tryz.prog 74 [.ptr 0 0,.d (ci id)] [qP 1 x] 3 (.tup []) [qP 1 { x with ids:=dK x.ids id }] 3:=by
 obtain⟨ids,names,evs⟩:=x;have hid:ids.length≤1000000:=M.2.2.1;refine bp.cZ aa (n:=21) (rs:=[]) Tryz.func74 (by kernel_rfl) rfl Tryz.ntmps74 Tryz.results74 rfl rfl fun C hC N=>?_;refine W.seq (W.region ?_);iterate 3 refine pE rfl ?_
 refine pE rfl (pE rfl (pu (ay rfl rfl rfl (va ids id) rfl) rfl ?_));refine pE rfl (WO.nil (qs (an rfl (fun I=>?_) (fun I=>?_))));·
  have J:dK ids id=ids++[id]:=if_neg (by revert I;cases (ids.any fun x=>decide (id=x)) <;> simp);refine W.region ?_;iterate 4 refine pE rfl ?_
  refine pE rfl (pE rfl (pu (aZ aa rfl rfl rfl rfl rfl rfl rfl rfl rfl) rfl ?_));refine eu (fn:=ic) (a:=id) aa rfl rfl rfl rfl rfl rfl rfl rfl rfl rfl (fun _=>rfl) (by show(ids.length+1)*8≤_;omega) ?_;iterate 2 refine pE rfl ?_
  refine ax aa rfl rfl rfl rfl rfl rfl rfl rfl (WO.nil (b4.end aa [4,2,3] trivial rfl rfl rfl rfl ?_ ?_));·rw[J];exact⟨rfl,trivial⟩
  rfl
 have J:dK ids id=ids:=if_pos (by revert I;cases (ids.any fun x=>decide (id=x)) <;> simp);refine W.skip (b4.end aa [1,2,3] trivial rfl rfl rfl rfl ?_ ?_);·rw[J];exact⟨rfl,trivial⟩
 rfl
theorem Cu {n:Nat} {x:eV} (h:sN n x) (id:Int):((bO x.evs id).getD []).length≤n:=by
 unfold bO
 cases q:x.evs.find? fun p=>decide (p.1=id) with
 | none=>simp
 | some p=>simpa [q] using h.2.2.2 p (List.mem_of_find?_eq_some q)
set_option maxHeartbeats 1000000 in
theorem zO (x:eV) (j:JV) (hj:uR j) (O:sN 1000000 x):bp Tryz.prog 24 [.ptr 0 0,.ag j.c] [qP 1 x] 3 (.d (ci (dk x j).2)) [qP 1 (dk x j).1] 3:=by
 obtain⟨ids,names,evs⟩:=x;have a8:=Cu O (bm j).1;have hid:ids.length≤1000000:=O.2.2.1;obtain⟨M,X⟩:∃ M,M=dK ids (bm j).1:=⟨_,rfl⟩;obtain⟨cur,U⟩:∃ cur,cur=(bO evs (bm j).1).getD []:=⟨_,rfl⟩;have b0:cur.length≤1000000:=by rw[U];exact a8
 refine bp.cZ aa (n:=90) (rs:=[.tmp 4]) Tryz.func24 (by kernel_rfl) rfl Tryz.ntmps24 Tryz.results24 rfl rfl fun C hC hG=>?_;refine W.seq (W.region (cw rfl rfl rfl (pE rfl (WO.nil (qs (W.seq (W.region (pE rfl (pE rfl (pE rfl (pE rfl (pu (build aa rfl rfl rfl rfl) rfl ?_))))))))))));refine cw rfl rfl rfl (pE rfl (WO.nil (qs (W.seq (W.region (pE rfl (aE [5] [] rfl rfl rfl rfl rfl ((rQ j (bM j))) rfl rfl (by rfl) (by rfl) rfl rfl rfl rfl ?_)))))));iterate 5 refine pE rfl ?_
 refine WO.nil (qs ?_);iterate 2 refine W.seq ?_
 refine W.region ?_;iterate 3 refine pE rfl ?_
 refine pE rfl (WO.nil (qs (an rfl (fun Z=>?_) (fun Z=>?_))));·
  have J:dk ⟨ids,names,evs⟩ j=(⟨ids,names,evs⟩,10):=if_pos Z;refine W.seq (W.region (pE rfl (WO.nil (qs (W.ret (aA (b4.end aa [1,2,3] trivial rfl rfl rfl rfl ?_ ?_)))))));·rw[J];exact⟨rfl,trivial⟩
  rw[J];rfl
 have hb:¬ bD j (bM j)=true:=by rw[show bD j (bM j)=false from Z];simp
 refine W.skip (qs ?_);iterate 2 refine W.seq ?_
 refine W.region ?_;iterate 2 refine pE rfl ?_
 refine WO.nil (qs (an rfl (fun ad=>?_) (fun ad=>?_)));·
  have N:(bc j cN 4).s≠pM:=by simpa [pM] using ad
  have hE:dk ⟨ids,names,evs⟩ j=(if (bm j).2.2=0 then (sv ⟨ids,names,evs⟩ (bm j).1 (bm j).2.1,0) else (⟨ids,names,evs⟩,(bm j).2.2)):=by unfold dk;rw[if_neg hb,if_pos N]
  refine W.seq (W.region (pE rfl (pu (ay rfl rfl rfl (A5 j (hj.val _ _)) rfl) rfl ?_)));iterate 4 refine pE rfl ?_
  refine aL aa rfl rfl rfl (pE rfl (ax aa rfl rfl rfl rfl rfl rfl rfl rfl (pE rfl (WO.nil (qs ?_)))));iterate 2 refine W.seq ?_
  refine W.region ?_;iterate 2 refine pE rfl ?_
  refine WO.nil (qs (an rfl (fun ai=>?_) (fun ai=>?_)));·
   have h0:(bm j).2.2=0:=by simpa using ai
   have J:dk ⟨ids,names,evs⟩ j=(⟨M,names,cr evs (bm j).1 (cur++[(bm j).2.1])⟩,(bm j).2.2):=by rw[hE,if_pos h0,X,U,h0];rfl
   refine W.seq (W.nI [(0,.ptr 0 0),(9,.ptr 1 0)] [8,10] [(0,[.own 2 (M.map ic),.mp 3 (ee ik cs names),.mo 4 (fD ik Ev.c evs) none none]),(1,(bm j).2.1.c.map A.d)] [] [2,3,4] 5 ?_ ?_);·
    refine W.region ?_;iterate 2 refine pE rfl ?_
    refine aE [0] [1,2,3] rfl rfl rfl rfl rfl ((qY ⟨ids,names,evs⟩ (bm j).1 O)) rfl rfl (by rfl) (by rfl) rfl rfl rfl rfl ?_;refine WO.nil (dN [0,7,9,10,11] rfl ?_ ⟨rfl,rfl,rfl,rfl,trivial⟩ ?_ trivial rfl);·repeat' first | exact trivial | refine⟨rfl,?_⟩
    rw[X];repeat' first | exact trivial | refine⟨rfl,?_⟩
   refine qs (W.DX 0 2 rfl rfl rfl fun b=>?_);refine' W.p9 aa (fun bx=>[(0,[.own 2 (M.map ic),.mp 3 (ee ik cs names),.mo 5 (fD ik Ev.c evs) (some (ik (bm j).1)) (some b)])::bx,(0,[.own 2 (M.map ic),.mp 3 (ee ik cs names),.mo 5 (fD ik Ev.c evs) (some (ik (bm j).1)) (some b)])::bx]) [[5,6,2,3],[7,5,2,3]] [7,8] [10,13] 14 (by kernel_rfl) (by kernel_rfl) rfl rfl ?hL_1;case' hL_1=>skip
   refine' aQ (ev aa rfl) ?p_2 rfl rfl rfl (by kernel_rfl) rfl ?h_2;case' h_2=>skip
   refine' aQ (ev aa rfl) ?p_3 rfl rfl rfl (by kernel_rfl) rfl ?h_3;case' h_3=>skip
   refine' aQ (ev aa rfl) ?p_4 rfl rfl rfl (by kernel_rfl) rfl ?h_4;case' h_4=>skip
   refine' aQ (rq aa 0 2 rfl rfl rfl rfl) ?p_5 rfl rfl rfl (by kernel_rfl) rfl ?h_5;case' h_5=>skip
   refine' aQ (ev aa rfl) ?p_6 rfl rfl rfl (by kernel_rfl) rfl ?h_6;case' h_6=>skip
   refine' aQ (ev aa rfl) ?p_7 rfl rfl rfl (by kernel_rfl) rfl ?h_7;case' h_7=>skip
   refine' aQ (ev aa rfl) ?p_8 rfl rfl rfl (by kernel_rfl) rfl ?h_8;case' h_8=>skip
   refine' aQ (ev aa rfl) ?p_9 rfl rfl rfl (by kernel_rfl) rfl ?h_9;case' h_9=>skip
   refine' aQ (rq aa 0 2 rfl rfl rfl rfl) ?p_10 rfl rfl rfl (by kernel_rfl) rfl ?h_10;case' h_10=>skip
   refine' aQ (ev aa rfl) ?p_11 rfl rfl rfl (by kernel_rfl) rfl ?h_11;case' h_11=>skip
   refine' v7 ?x_12 rfl rfl rfl (by kernel_rfl) (fun h=>(ab h (by kernel_rfl)).elim) rfl ?h_12;case x_12=>
    intro b hb g;cases b;·exact(ab hb (by kernel_rfl)).elim
    refine AE (kf:=ik) (fn:=Ev.c) (l:=evs) (a:=(bm j).1) (x:=cur.map Ev.c) aa 0 2 rfl rfl rfl rfl rfl rfl rfl rfl (fN (aa.fa rfl rfl)) rfl rfl rfl O.2.1 (by rw[U]) rfl rfl ?_;refine WO.nil ?_;refine' rZ rfl ?_ ?_ ?_ ?_;all_goals try exact rfl
   case' h_12=>skip
   refine' aQ (ev aa rfl) ?p_13 rfl rfl rfl (by kernel_rfl) rfl ?h_13;case' h_13=>skip
   refine' aQ (aZ aa rfl rfl rfl rfl rfl rfl rfl rfl rfl) ?p_14 rfl rfl rfl (by kernel_rfl) rfl ?h_14;case' h_14=>skip
   refine' v7 ?x_15 rfl rfl rfl (by kernel_rfl) (fun h=>(ab h (by kernel_rfl)).elim) rfl ?h_15;case x_15=>
    intro b hb g;cases b;·exact(ab hb (by kernel_rfl)).elim
    refine eu (fn:=Ev.c) (l:=cur) (a:=(bm j).2.1) aa rfl rfl rfl rfl rfl rfl rfl rfl rfl rfl (fun _=>rfl) (by show(cur.length+1)*72≤_;omega) ?_;refine WO.nil ?_;refine' rZ rfl ?_ ?_ ?_ ?_;all_goals try exact rfl
   case' h_15=>skip
   case p_2=>refine⟨fun I=>(ab I (by kernel_rfl)).elim,?_,fun I=>(ab I (by kernel_rfl)).elim,?_,fun I=>(ab I (by kernel_rfl)).elim,?_⟩ <;> intro I <;> first | exact⟨ev aa rfl,fun h=>nomatch h⟩ | exact(ab I (by kernel_rfl)).elim
   case p_3=>refine⟨fun I=>(ab I (by kernel_rfl)).elim,?_,fun I=>(ab I (by kernel_rfl)).elim,?_,fun I=>(ab I (by kernel_rfl)).elim,?_⟩ <;> intro I <;> first | exact⟨ev aa rfl,fun h=>nomatch h⟩ | exact(ab I (by kernel_rfl)).elim
   case p_4=>refine⟨fun I=>(ab I (by kernel_rfl)).elim,?_,fun I=>(ab I (by kernel_rfl)).elim,?_,fun I=>(ab I (by kernel_rfl)).elim,?_⟩ <;> intro I <;> first | exact⟨ev aa rfl,fun h=>nomatch h⟩ | exact(ab I (by kernel_rfl)).elim
   case p_5=>refine⟨fun I=>(ab I (by kernel_rfl)).elim,?_,fun I=>(ab I (by kernel_rfl)).elim,?_,fun I=>(ab I (by kernel_rfl)).elim,?_⟩ <;> intro I <;> first | exact⟨rq aa 0 2 rfl rfl rfl rfl,fun h=>nomatch h⟩ | exact(ab I (by kernel_rfl)).elim
   case p_6=>refine⟨fun I=>(ab I (by kernel_rfl)).elim,?_,fun I=>(ab I (by kernel_rfl)).elim,?_,fun I=>(ab I (by kernel_rfl)).elim,?_⟩ <;> intro I <;> first | exact⟨ev aa rfl,fun h=>nomatch h⟩ | exact(ab I (by kernel_rfl)).elim
   case p_7=>refine⟨fun I=>(ab I (by kernel_rfl)).elim,?_,fun I=>(ab I (by kernel_rfl)).elim,?_,fun I=>(ab I (by kernel_rfl)).elim,?_⟩ <;> intro I <;> first | exact⟨ev aa rfl,fun h=>nomatch h⟩ | exact(ab I (by kernel_rfl)).elim
   case p_8=>refine⟨fun I=>(ab I (by kernel_rfl)).elim,?_,fun I=>(ab I (by kernel_rfl)).elim,?_,fun I=>(ab I (by kernel_rfl)).elim,?_⟩ <;> intro I <;> first | exact⟨ev aa rfl,fun h=>nomatch h⟩ | exact(ab I (by kernel_rfl)).elim
   case p_9=>refine⟨fun I=>(ab I (by kernel_rfl)).elim,?_,fun I=>(ab I (by kernel_rfl)).elim,?_,fun I=>(ab I (by kernel_rfl)).elim,?_⟩ <;> intro I <;> first | exact⟨ev aa rfl,fun h=>nomatch h⟩ | exact(ab I (by kernel_rfl)).elim
   case p_10=>refine⟨fun I=>(ab I (by kernel_rfl)).elim,?_,fun I=>(ab I (by kernel_rfl)).elim,?_,fun I=>(ab I (by kernel_rfl)).elim,?_⟩ <;> intro I <;> first | exact⟨rq aa 0 2 rfl rfl rfl rfl,fun h=>nomatch h⟩ | exact(ab I (by kernel_rfl)).elim
   case p_11=>refine⟨fun I=>(ab I (by kernel_rfl)).elim,?_,fun I=>(ab I (by kernel_rfl)).elim,?_,fun I=>(ab I (by kernel_rfl)).elim,?_⟩ <;> intro I <;> first | exact⟨ev aa rfl,fun h=>nomatch h⟩ | exact(ab I (by kernel_rfl)).elim
   case p_13=>refine⟨fun I=>(ab I (by kernel_rfl)).elim,?_,fun I=>(ab I (by kernel_rfl)).elim,?_,fun I=>(ab I (by kernel_rfl)).elim,?_⟩ <;> intro I <;> first | exact⟨ev aa rfl,fun h=>nomatch h⟩ | exact⟨dD aa rfl rfl rfl rfl,fun h=>nomatch h⟩ | exact⟨dE aa rfl rfl rfl rfl rfl,fun h=>nomatch h⟩ | exact(ab I (by kernel_rfl)).elim
   case p_14=>refine⟨fun I=>(ab I (by kernel_rfl)).elim,?_,fun I=>(ab I (by kernel_rfl)).elim,?_,fun I=>(ab I (by kernel_rfl)).elim,?_⟩ <;> intro I <;> first | exact⟨aZ aa rfl rfl rfl rfl rfl rfl rfl rfl rfl,fun h=>nomatch h⟩ | exact(ab I (by kernel_rfl)).elim
   refine CD.nil ?_ rfl;refine Dh (kf:=ik) (fn:=Ev.c) (l:=evs) (a:=(bm j).1) (y:=cur++[(bm j).2.1]) aa 0 2 rfl rfl rfl rfl rfl rfl rfl (fN (aa.fa rfl rfl)) rfl rfl rfl O.2.1 rfl rfl ?_;refine WO.nil (qs (W.seq (W.region ?_)));iterate 2 refine pE rfl ?_
   refine WO.nil (qs (W.ret (aA (b4.end aa [2,3,8] trivial rfl rfl rfl rfl ?_ ?_))));·rw[J];exact⟨rfl,trivial⟩
   rw[J];rfl
  have h0:¬ (bm j).2.2=0:=by simpa using ai
  have J:dk ⟨ids,names,evs⟩ j=(⟨ids,names,evs⟩,(bm j).2.2):=by rw[hE,if_neg h0]
  refine W.skip (qs (W.seq (W.region ?_)));iterate 2 refine pE rfl ?_
  refine WO.nil (qs (W.ret (aA (b4.end aa [1,2,3] trivial rfl rfl rfl rfl ?_ ?_))));·rw[J];exact⟨rfl,trivial⟩
  rw[J];rfl
 have N:¬ (bc j cN 4).s≠pM:=by simpa [pM] using ad
 refine W.skip (qs (W.seq (W.region (pE rfl (aE [5] [] rfl rfl rfl rfl rfl ((gZ j (bD j (bM j)) bg 4)) rfl rfl (by rfl) (by rfl) rfl rfl rfl rfl ?_)))));iterate 2 refine pE rfl ?_
 refine WO.nil (qs ?_);iterate 2 refine W.seq ?_
 apply aO;(case hb=>rfl);·repeat' first | refine bt rfl rfl rfl | refine aG rfl rfl ?_ | refine aD rfl rfl rfl rfl ?_ | refine pE rfl ?_ | refine WO.nil ?_ | refine pu (aZ aa rfl rfl rfl rfl rfl rfl rfl rfl rfl) rfl ?_ | refine pu (ay rfl rfl rfl (rD j (bD j (bM j) || dp j bg 4) pt) rfl) rfl ?_ | (apply bj;(case hj=>rfl);(case hl=>rfl))
 refine qs (an rfl (fun aj=>?_) (fun aj=>?_));·
  have J:dk ⟨ids,names,evs⟩ j=(⟨ids,names,evs⟩,10):=by unfold dk;rw[if_neg hb,if_neg N,if_pos aj]
  refine W.seq (W.region (pE rfl (WO.nil (qs (W.ret (aA (b4.end aa [1,2,3] trivial rfl rfl rfl rfl ?_ ?_)))))));·rw[J];exact⟨rfl,trivial⟩
  rw[J];rfl
 have hg:¬ (bif (bD j (bM j) || dp j bg 4) then true else !fq j pt)=true:=by rw[show(bif (bD j (bM j) || dp j bg 4) then true else !fq j pt)=false from aj];simp
 refine W.skip (qs ?_);iterate 2 refine W.seq ?_
 refine W.region (pE rfl (pu (ay rfl rfl rfl (pb (bc j bg 4).s) rfl) rfl ?_));refine pE rfl (WO.nil (qs (W.seq (W.region ?_))));iterate 2 refine pE rfl ?_
 refine WO.nil (qs (an rfl (fun a1=>?_) (fun a1=>?_)));·
  have J:dk ⟨ids,names,evs⟩ j=(⟨ids,names,evs⟩,cd (bc j bg 4).s):=by unfold dk;rw[if_neg hb,if_neg N,if_neg hg,if_pos (by simpa using a1)]
  refine W.seq (W.region ?_);iterate 2 refine pE rfl ?_
  refine WO.nil (qs (W.ret (aA (b4.end aa [1,2,3] trivial rfl rfl rfl rfl ?_ ?_))));·rw[J];exact⟨rfl,trivial⟩
  rw[J];rfl
 have a7:¬ cd (bc j bg 4).s≠0:=by simpa using a1
 refine W.skip (qs ?_);iterate 2 refine W.seq ?_
 refine W.region ?_;iterate 3 refine pE rfl ?_
 refine pE rfl (pE rfl (pu (kF (kf:=ik) (vf:=cs) (l:=names) (a:=(bc j bq 3).n) (z:=aY) aa rfl rfl rfl rfl rfl (fN (aa.fa rfl rfl)) rfl rfl rfl (fun _ _=>.v _ rfl) O.1 rfl) rfl ?_));refine pE rfl (WO.nil (qs (an rfl (fun a6=>?_) (fun a6=>?_))));·
  have J:dk ⟨ids,names,evs⟩ j=(⟨ids,names,evs⟩,4):=by unfold dk;rw[if_neg hb,if_neg N,if_neg hg,if_neg a7,if_pos (by revert a6;show(!decide ((bO names (bc j bq 3).n).getD aY=aY))=true→_;simp)]
  refine W.seq (W.region (pE rfl (WO.nil (qs (W.ret (aA (b4.end aa [1,2,3] trivial rfl rfl rfl rfl ?_ ?_)))))));·rw[J];exact⟨rfl,trivial⟩
  rw[J];rfl
 have J:dk ⟨ids,names,evs⟩ j=(EZ ⟨ids,names,evs⟩ (bc j bq 3).n (bc j bg 4).s,0):=by unfold dk;rw[if_neg hb,if_neg N,if_neg hg,if_neg a7,if_neg (by revert a6;show(!decide ((bO names (bc j bq 3).n).getD aY=aY))=false→_;simp)]
 refine W.skip (qs (W.seq (W.region ?_)));iterate 2 refine pE rfl ?_
 refine aE [0] [1,2,3] rfl rfl rfl rfl rfl ((qY ⟨ids,names,evs⟩ (bc j bq 3).n O)) rfl rfl (by rfl) (by rfl) rfl rfl rfl rfl ?_;refine WO.nil (qs (W.seq (W.region ?_)));iterate 3 refine pE rfl ?_
 refine pE rfl ?_;iterate 2 refine pE rfl ?_
 refine Dl (kf:=ik) (vf:=cs) (l:=names) (a:=(bc j bq 3).n) (y:=(bc j bg 4).s) aa 0 1 rfl rfl rfl rfl rfl rfl rfl rfl (fN (aa.fa rfl rfl)) rfl O.1 rfl rfl rfl ?_;refine WO.nil (qs (W.seq (W.region (pE rfl (WO.nil (qs (W.ret (b4.end aa [9,12,11] trivial rfl rfl rfl rfl ?_ ?_))))))));·rw[J];exact⟨rfl,trivial⟩
 rw[J];rfl
end Go.Proofs.YtpiaiiopakafhaaGreatDoor
namespace Go.Proofs.YtpiaiiopakafhaaGreatDoor
open Go.Ab Go.Tb
set_option maxRecDepth 10000
set_option maxHeartbeats 1000000
attribute [local irreducible] W WO Pu QS QB QL QF QV bu CH QE
open Go.RowKit
attribute [local go_sem] Oper.semAt_some
set_option maxRecDepth 100000 in
set_option maxHeartbeats 2000000 in
theorem AI:sd Tryz.prog 77:=by
 intro l W J M b1 o1 a len cap R h0 h1 U hle X Z hY;refine(callsIn_wide (n:=0)).1 ?_;refine callsIn_of_wp (F:=Fence.wide) (n:=0) Tryz.func77 rfl trivial ?_ rfl;simp only[Tryz.ntmps77,List.size_toArray,List.length_cons,List.length_nil,Nat.reduceAdd,Nat.reduceSub,Array.replicate_succ,Array.replicate_zero,List.push_toArray,List.append_toArray,List.nil_append,List.cons_append]
 gi_wp2
 gi_loopw [4] (fun i wr=>(i=.int .i64 0∧wr=W)∨(i=.int .i64 1000∧(∃ a' I,wr.cell? ⟨J,M,none⟩=some (.slice a' len I))∧wr.cell? ⟨b1,o1,none⟩=some (.int .i64 1000)∧R wr)) (fun i _=>1000 - (intOf i).toNat)
 case atStart=>exact .inl ⟨rfl,rfl⟩
 case round=>
  rcases hrel with ⟨rfl,rfl⟩ | ⟨rfl,⟨a',I,h2⟩,h3,N⟩
  ·
   obtain⟨fn,tmps,assign,body,hy,N⟩:=hY;have ad:wr.cell? ⟨J,M,none⟩=some (.slice (some a) len cap):=h0;have ai:wr.cell? ⟨b1,o1,none⟩=some (.int .i64 1000):=h1
   gi_wp2
   gi_big_region
   rw[show min (1000:Int) (len:Int)=(len:Int) from by omega];have aj:wr.drew.cell? ⟨J,M,none⟩=some (.slice (some a) len cap):=h0;have a1:wr.drew.cell? ⟨b1,o1,none⟩=some (.int .i64 1000):=h1
   gi_wp2
   refine⟨rfl,N.mono ?_⟩;rintro e W3 ⟨rfl,⟨a',I,h2⟩,h3,O⟩
   gi_wp2
   go_roundw
   case rel=>exact .inr ⟨rfl,⟨_,_,h2⟩,h3,O⟩
   case measure=>simp[intOf]
  gi_wp2
  go_end0
  exact⟨⟨_,rfl⟩,N⟩
end Go.Proofs.YtpiaiiopakafhaaGreatDoor
namespace Go.Proofs.YtpiaiiopakafhaaGreatDoor
open Go.Ab Go.Tb
set_option maxRecDepth 10000
set_option maxHeartbeats 1000000
attribute [local irreducible] W WO Pu QS QB QL QF QV bu CH QE
theorem AM (evs:List Ev):az Tryz.prog 26 [.d (.sl (evs.map Ev.c)),.d (ci 1000)] (.clo 77 [.rowd [.sl (evs.map Ev.c)],.rowd [ci 1000]]) 0:=by
 refine az.bl (n:=9) (ts:=[4]) Tryz.func26 (by kernel_rfl) rfl Tryz.ntmps26 Tryz.results26 rfl rfl fun C hC J=>?_;refine W.seq (W.region (cw rfl rfl rfl (cw rfl rfl rfl (pE rfl (WO.nil (qs ?_))))));iterate 2 refine W.seq ?_
 refine W.region (pE rfl (pE rfl (WO.nil (qs (an rfl (fun I=>?_) (fun I=>?_))))));·exfalso;simp at I
 refine W.skip (qs (W.seq (xn 2 (l:=[.sl (evs.map Ev.c)]) rfl rfl rfl rfl rfl ?_)));refine xn 3 (l:=[ci 1000]) rfl rfl rfl rfl rfl ?_;refine W.region ?_;iterate 2 refine pE rfl ?_
 refine WO.nil (qs (W.ret (QF.aB trivial rfl ?_)));rfl
theorem DF {id:Int} (h:0≤id∧id≤1000000000000000):(B #[116]).size+(cT id).size≤9223372036854775807:=by
 have h1:(10:Nat) ^ 20=100000000000000000000:=by decide
 have h2:=tT (n:=id) (by omega);have h3:(B #[116]).size=1:=rfl;omega
end Go.Proofs.YtpiaiiopakafhaaGreatDoor
namespace Go.Proofs.YtpiaiiopakafhaaGreatDoor
open Go.Ab Go.Tb
set_option maxRecDepth 10000
set_option maxHeartbeats 1000000
attribute [local irreducible] W WO Pu QS QB QL QF QV bu CH QE
open Go.RowKit
attribute [local go_sem] Oper.semAt_some
set_option maxRecDepth 100000 in
set_option maxHeartbeats 2000000 in
theorem Ap:qC Tryz.prog 77:=by
 intro l W I J b1 o1 a cap R h0 h1 M;refine(callsIn_wide (n:=0)).1 ?_;refine callsIn_of_wp (F:=Fence.wide) (n:=0) Tryz.func77 rfl trivial ?_ rfl;simp only[Tryz.ntmps77,List.size_toArray,List.length_cons,List.length_nil,Nat.reduceAdd,Nat.reduceSub,Array.replicate_succ,Array.replicate_zero,List.push_toArray,List.append_toArray,List.nil_append,List.cons_append]
 gi_wp2
 gi_loopw [4] (fun i wr=>i=.int .i64 0∧wr=W) (fun i _=>1000 - (intOf i).toNat)
 case atStart=>exact⟨rfl,rfl⟩
 case round=>
  obtain⟨rfl,rfl⟩:=hrel;have N:wr.cell? ⟨I,J,none⟩=some (.slice a 0 cap):=h0;have O:wr.cell? ⟨b1,o1,none⟩=some (.int .i64 1000):=h1
  gi_wp2
  go_end0
  exact⟨⟨_,rfl⟩,M⟩
end Go.Proofs.YtpiaiiopakafhaaGreatDoor
namespace Go.Proofs.YtpiaiiopakafhaaGreatDoor
open Go.Ab Go.Tb
set_option maxRecDepth 10000
set_option maxHeartbeats 1000000
attribute [local irreducible] W WO Pu QS QB QL QF QV bu CH QE
end Go.Proofs.YtpiaiiopakafhaaGreatDoor
namespace Go.Proofs.YtpiaiiopakafhaaGreatDoor
open Go.Ab Go.Tb
set_option maxRecDepth 10000
set_option maxHeartbeats 1000000
attribute [local irreducible] W WO Pu QS QB QL QF QV bu CH QE
theorem cI (a w:Int):gd Tryz.prog 73 [.d (.v (.int .i64 a)),.d (.v (.int .i64 w))] [] 0 (.iface 128 (.agg #[.int .i64 a,.int .i64 w])):=by
 refine gd.bl (n:=8) Tryz.func73 (by kernel_rfl) rfl Tryz.ntmps73 rfl fun C hC I=>?_;refine W.region ?_;iterate 2 refine pE rfl ?_
 refine pu (build aa rfl rfl rfl rfl) rfl ?_;refine pu (CT (l:=[.int .i64 a,.int .i64 w]) aa rfl rfl rfl) rfl ?_;refine EF rfl (fun st'=>?_);repeat' first | refine bW ?_ | refine fg ?_ | refine iU ?_ | refine Fy ?_
 exact rfl
theorem mh {s:ByteArray} {i:Nat} (h:i < s.size):(ah s)[i]? = some (ak (ah s) i):=by
 have:i < (ah s).length:=by rw[aw];exact h
 rw[List.getElem?_eq_getElem this];simp[ak,List.getD_eq_getElem?_getD,List.getElem?_eq_getElem this]
theorem gv (s:ByteArray) (i:Nat):bp Tryz.prog 120 [.ptr 0 0] [ek s i] 0 (.d (.v (.int .u8 (ak (ah s) i).toNat))) [ek s i] 0:=by
 refine bp.cZ aa (n:=22) (rs:=[.tmp 2]) Tryz.func120 (by kernel_rfl) rfl Tryz.ntmps120 Tryz.results120 rfl rfl fun C hC M=>?_;refine W.seq (W.region (pE rfl (WO.nil (qs ?_))));iterate 2 refine W.seq ?_
 refine W.eW aa (by kernel_rfl) ?_;iterate 3 refine aK (ev aa rfl) rfl ?_
 refine aK (ev aa rfl) rfl ?_;iterate 3 refine aK (ev aa rfl) rfl ?_
 refine aK (ev aa rfl) rfl ?_;iterate 2 refine aK (ev aa rfl) rfl ?_
 refine CH.nil ?_;refine qs (an rfl (fun I=>?_) (fun I=>?_));·
  have J:ak (ah s) i=0:=kA (by rw[aw];simpa using I);refine W.seq (W.region (pE rfl (WO.nil (qs (W.ret (aA (b4.end aa [] trivial rfl rfl rfl rfl ?_ ?_)))))));·exact⟨rfl,trivial⟩
  rw[J];rfl
 have hb:=mh (s:=s) (i:=i) (by simpa using I);refine W.skip (qs (W.seq (W.eW aa (by kernel_rfl) ?_)));iterate 3 refine aK (ev aa rfl) rfl ?_
 refine aK (ev aa rfl) rfl ?_;iterate 3 refine aK (ev aa rfl) rfl ?_
 refine aK (ev aa rfl) rfl ?_;refine aK (dM aa rfl rfl rfl rfl (Int.natCast_nonneg _) (gf hb)) rfl ?_;refine aK (ev aa rfl) rfl ?_;refine CH.nil ?_;refine qs (W.ret (b4.end aa [] trivial rfl rfl rfl rfl ?_ ?_));·exact⟨rfl,trivial⟩
 rfl
end Go.Proofs.YtpiaiiopakafhaaGreatDoor
