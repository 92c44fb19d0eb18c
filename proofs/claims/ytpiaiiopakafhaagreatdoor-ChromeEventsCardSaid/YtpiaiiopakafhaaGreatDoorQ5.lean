import Derived.Test.YtpiaiiopakafhaaGreatDoorQ4
import Derived.Test.YtpiaiiopakafhaaGreatDoorChecked
import Derived.KernelRfl
import Derived.Test.YtpiaiiopakafhaaGreatDoorRows
import Derived.Shelf.Strings.Builder1
import Derived.Shelf.Small.Strs
import Derived.Shelf.Strconv.Atoi
import Derived.Shelf.Strconv.Itoa0
import Derived.Shelf.Strconv.Itoa1
import Derived.Shelf.LaysM
import Derived.Shelf.Strconv.Itoa2
import Derived.Shelf.Strconv.Itoa3
import Derived.Shelf.Strconv.AtoiErrFast
import Derived.Shelf.Strconv.ParseIntEmpty
import Derived.Shelf.Strconv.AtoiFail
import Derived.Shelf.Strconv.Clone
import Derived.Shelf.Strconv.SyntaxError
import Derived.Shelf.LaysC
import Derived.Shelf.Strconv.ToError
import Derived.Shelf.Strconv.AtoiErr
import Derived.Shelf.Strconv.ErrVar
import Derived.Shelf.Strconv.Lower
import Derived.Shelf.Strconv.ParseUint10
import Derived.Shelf.Strconv.ParseUint10Empty
import Derived.Shelf.Strconv.ParseUint10Any
import Derived.Shelf.Strconv.ParseInt10
import Derived.Shelf.Strconv.AtoiLong
import Derived.Shelf.Strconv.AtoiInnerAll
import Derived.Shelf.Strconv.RangeError
import Derived.Shelf.Strconv.ToErrorRange
import Derived.Shelf.Strconv.AtoiAll
import Derived.Shelf.Strconv.ErrVarAll
import Derived.Shelf.Strings.Search1
import Derived.Shelf.Slices.Equal
import Derived.Shelf.Slices.Empties2
import Derived.Test.YtpiaiiopakafhaaGreatDoorProg
import Derived.Lib.Strings
import Derived.Lib.Slices
import Derived.Lib.Walk
import Derived.Lib.Builder
import Derived.Lib.UnsafeStr
import Derived.WalkKit
import Derived.Laws.Externs
import Derived.Laws.IdiomCopy
namespace Go.Proofs.YtpiaiiopakafhaaGreatDoor
open Go.Ab
abbrev Eh:List (Nat×bM):=[
 (2,⟨.int .i64,1,8,[.int .i64 0]⟩),
 (3,⟨.int .i64,1,8,[.int .i64 0]⟩),
 (4,⟨.bool,1,1,[.bool false]⟩),
 (5,⟨.int .u8,1,1,[.int .u8 0]⟩),
 (9,⟨.str,1,16,[.string ⟨#[]⟩]⟩),
 (12,⟨.int .u64,1,8,[.int .u64 0]⟩),
 (21,⟨.int .i32,1,4,[.int .i32 0]⟩),
 (23,⟨.slice 56,1,24,[.slice none 0 0]⟩),
 (24,⟨.slice 59,1,24,[.slice none 0 0]⟩),
 (25,⟨.slice 97,1,24,[.slice none 0 0]⟩),
 (27,⟨.st [(0,23, "Threads"),(1,24, "Domains"),(2,25, "Snaps")],3,72,[.slice none 0 0,.slice none 0 0,.slice none 0 0]⟩),
 (28,⟨.slice 61,1,24,[.slice none 0 0]⟩),
 (30,⟨.st [(0,27, "Head"),(3,28, "Parts")],4,96,[.slice none 0 0,.slice none 0 0,.slice none 0 0,.slice none 0 0]⟩),
 (31,⟨.int .i64,1,8,[.int .i64 0]⟩),
 (36,⟨.slice 86,1,24,[.slice none 0 0]⟩),
 (42,⟨.int .i64,1,8,[.int .i64 0]⟩),
 (43,⟨.slice 9,1,24,[.slice none 0 0]⟩),
 (44,⟨.slice 46,1,24,[.slice none 0 0]⟩),
 (46,⟨.st [(0,42, "Op"),(1,3, "N"),(2,9, "S"),(3,43, "Keys"),(4,44, "Kids")],5,80,[.int .i64 0,.int .i64 0,.string ⟨#[]⟩,.slice none 0 0,.slice none 0 0]⟩),
 (48,⟨.int .i64,1,8,[.int .i64 0]⟩),
 (50,⟨.st [(0,3, "At"),(1,48, "Kind"),(2,9, "Name"),(3,3, "N"),(4,3, "M"),(5,43, "Stack")],6,72,[.int .i64 0,.int .i64 0,.string ⟨#[]⟩,.int .i64 0,.int .i64 0,.slice none 0 0]⟩),
 (56,⟨.st [(0,3, "Id"),(1,9, "Name"),(2,3, "Domain")],3,32,[.int .i64 0,.string ⟨#[]⟩,.int .i64 0]⟩),
 (57,⟨.slice 50,1,24,[.slice none 0 0]⟩),
 (59,⟨.st [(0,3, "Id"),(1,3, "Ppm")],2,16,[.int .i64 0,.int .i64 0]⟩),
 (61,⟨.st [(0,3, "Thread"),(1,3, "Serial"),(2,3, "Lost"),(3,57, "Events")],4,48,[.int .i64 0,.int .i64 0,.int .i64 0,.slice none 0 0]⟩),
 (66,⟨.ptr 71,1,8,[.pointer none]⟩),
 (67,⟨.map 3 9,1,8,[.map none]⟩),
 (68,⟨.map 3 57,1,8,[.map none]⟩),
 (69,⟨.slice 3,1,24,[.slice none 0 0]⟩),
 (71,⟨.st [(0,69, "ids"),(1,67, "names"),(2,68, "events")],3,40,[.slice none 0 0,.map none,.map none]⟩),
 (77,⟨.slice 57,1,24,[.slice none 0 0]⟩),
 (86,⟨.st [(0,3, "Thread"),(1,3, "Serial"),(2,3, "Count")],3,24,[.int .i64 0,.int .i64 0,.int .i64 0]⟩),
 (95,⟨.st [(0,3, "Lo"),(1,3, "Hi")],2,16,[.int .i64 0,.int .i64 0]⟩),
 (97,⟨.st [(0,3, "A"),(1,3, "AtA"),(2,3, "B"),(3,95, "AtB")],5,40,[.int .i64 0,.int .i64 0,.int .i64 0,.int .i64 0,.int .i64 0]⟩),
 (100,⟨.ptr 102,1,8,[.pointer none]⟩),
 (102,⟨.st [(0,46, "j"),(5,4, "bad")],6,88,[.int .i64 0,.int .i64 0,.string ⟨#[]⟩,.slice none 0 0,.slice none 0 0,.bool false]⟩),
 (106,⟨.slice 108,1,24,[.slice none 0 0]⟩),
 (108,⟨.st [(0,9, "ph"),(1,48, "kind"),(2,4, "name"),(3,9, "n"),(4,9, "m"),(5,4, "hasStack")],6,72,[.string ⟨#[]⟩,.int .i64 0,.bool false,.string ⟨#[]⟩,.string ⟨#[]⟩,.bool false]⟩),
 (125,⟨.map 3 28,1,8,[.map none]⟩),
 (128,⟨.st [(0,3, "at"),(1,31, "why")],2,16,[.int .i64 0,.int .i64 0]⟩),
 (130,⟨.ptr 132,1,8,[.pointer none]⟩),
 (132,⟨.st [(0,9, "s"),(1,3, "at")],2,24,[.string ⟨#[]⟩,.int .i64 0]⟩),
 (138,⟨.ptr 140,1,8,[.pointer none]⟩),
 (140,⟨.st [(0,9, "S"),(1,3, "At"),(2,3, "Pos"),(3,31, "Err")],4,40,[.string ⟨#[]⟩,.int .i64 0,.int .i64 0,.int .i64 0]⟩),
 (147,⟨.ptr 150,1,8,[.pointer none]⟩),
 (148,⟨.slice 5,1,24,[.slice none 0 0]⟩),
 (150,⟨.st [(0,147, "addr"),(1,148, "buf")],2,32,[.pointer none,.slice none 0 0]⟩),
 (160,⟨.st [(0,9, "word"),(1,4, "name"),(2,4, "n"),(3,4, "m"),(4,4, "stack"),(5,3, "least"),(6,3, "most"),(7,3, "mLeast"),(8,3, "mMost")],9,56,[.string ⟨#[]⟩,.bool false,.bool false,.bool false,.bool false,.int .i64 0,.int .i64 0,.int .i64 0,.int .i64 0]⟩),
 (169,⟨.map 3 4,1,8,[.map none]⟩),
 (174,⟨.map 3 175,1,8,[.map none]⟩),
 (175,⟨.ptr 177,1,8,[.pointer none]⟩),
 (177,⟨.st [(0,3, "next"),(1,3, "last")],2,16,[.int .i64 0,.int .i64 0]⟩),
 (181,⟨.ptr 61,1,8,[.pointer none]⟩),
 (201,⟨.ptr 5,1,8,[.pointer none]⟩),
 (205,⟨.slice 160,1,24,[.slice none 0 0]⟩),
 (212,⟨.map 9 4,1,8,[.map none]⟩),
 (220,⟨.int .u64,1,8,[.int .u64 0]⟩),
 (231,⟨.int .u32,1,4,[.int .u32 0]⟩),
 (233,⟨.int .u64,1,8,[.int .u64 0]⟩),
 (236,⟨.int .i64,1,8,[.int .i64 0]⟩),
 (239,⟨.ptr 246,1,8,[.pointer none]⟩),
 (251,⟨.ptr 253,1,8,[.pointer none]⟩),
 (253,⟨.st [(0,9, "s")],1,16,[.string ⟨#[]⟩]⟩)]
theorem Fc:Eh.all (fun x=>vK Tryz.prog x.1 x.2)=true:=by kernel_rfl
abbrev aa:bF Tryz.prog:=⟨Eh,Fc,by kernel_rfl⟩
instance GO:Go.Ab.cd Tryz.prog:=⟨fun W=>mK Tryz.prog W⟩
section
variable {C:Ctx} {n:Nat} {ops:Array Oper} {Q:Exit→St→Prop} {rest:List Oper} {f:List (Nat×A)} {bx:List (Nat×List A)} {lv:List Nat} {gen d:Nat} {ty:TypeId} {pos:String} {af:Array Edge} {a:A}
theorem pE {op:Op} (h:Bool.rec (motive:=fun _=>Option A) none (iU aa f bx op) (Nat.blt d n)=some a) (k:WO Tryz.prog C n ops Q rest ⟨(d,a)::f,bx,lv,gen⟩):WO Tryz.prog C n ops Q (⟨some d,op,ty,pos,af,none⟩::rest) ⟨f,bx,lv,gen⟩:=by
 cases hb:Nat.blt d n with
 | false=>rw[hb] at h;exact absurd h (by simp)
 | true=>rw[hb] at h;exact pu (ev aa h) hb k
theorem pR {t:Nat} {x:Operand} {I:bM} {l:List D} (J:ah aa.l t=some I) (M:I.k.agg=true) (N:av f x=some (.rowd l)) (hl:l.length=I.n) (hd:Nat.blt d n=true) (k:WO Tryz.prog C n ops Q rest ⟨(d,.ag l)::f,bx,lv,gen⟩):WO Tryz.prog C n ops Q (⟨some d,.load t x,ty,pos,af,none⟩::rest) ⟨f,bx,lv,gen⟩:=pu (dL aa J M N hl) hd k
theorem pB {t:Nat} {x:Operand} {I:bM} {g:Nat} {l:List D} (J:ah aa.l t=some I) (M:I.k.agg=true) (N:av f x=some (.ptr g 0)) (hb:ah bx g=some (l.map A.d)) (hl:l.length=I.n) (hd:Nat.blt d n=true) (k:WO Tryz.prog C n ops Q rest ⟨(d,.ag l)::f,bx,lv,gen⟩):WO Tryz.prog C n ops Q (⟨some d,.load t x,ty,pos,af,none⟩::rest) ⟨f,bx,lv,gen⟩:=pu (dM aa J M N hb hl) hd k
end
end Go.Proofs.YtpiaiiopakafhaaGreatDoor
namespace Go.Proofs.YtpiaiiopakafhaaGreatDoor
open Go.Ab
theorem GH (W:World) (h:laidMet Tryz.prog Rows.chromeEventsRow.laid W):mK Tryz.prog W:=
 An (t:=230) (e:=220) (m:=20) (ti:=196) h (d:=Rows.laid_internal_strconv_uint64pow10) (.tail _ (.tail _ (.head _))) (by kernel_rfl) (by kernel_rfl) (by kernel_rfl) (by kernel_rfl) (by kernel_rfl) (by kernel_rfl)
  (nm := "*errors.errorString") (nm' := "*errors.errorString") (.tail _ (.tail _ (.tail _ (.tail _ (.head _))))) (.tail _ (.tail _ (.tail _ (.head _)))) (by kernel_rfl) (by kernel_rfl) (by kernel_rfl)
end Go.Proofs.YtpiaiiopakafhaaGreatDoor
namespace Go.Proofs.YtpiaiiopakafhaaGreatDoor
open Go.Ab Go.Tb
set_option maxRecDepth 10000
set_option maxHeartbeats 1000000
attribute [local irreducible] W WO Pu QS QB QL QF QV bA CH QE
theorem CU (n:Int):ay Tryz.prog 143 [.d (.v (.int .i64 n))] (.d (.v (.bool (eg n)))) 0:=by
 refine ay.aZ (n:=9) (ts:=[2]) Tryz.func143 (by kernel_rfl) rfl Tryz.ntmps143 Tryz.results143 rfl rfl fun C hC I=>?_;refine W.seq (W.region (pE rfl (WO.nil (qs (W.seq ?_)))));apply aG;(case hb=>rfl);·repeat' first | refine bg rfl rfl rfl | refine aH rfl rfl ?_ | refine aE rfl rfl rfl rfl ?_ | refine pE rfl ?_ | refine WO.nil ?_ | (apply aP;(case hj=>rfl);(case hl=>rfl))
 refine qs (W.ret (QF.aw trivial rfl ?_));simp[norm,aI,eg]
theorem EJ (n:Int):ay Tryz.prog 172 [.d (.v (.int .i64 n))] (.d (.v (.bool (eg n)))) 0:=by
 refine ay.aZ (n:=9) (ts:=[2]) Tryz.func172 (by kernel_rfl) rfl Tryz.ntmps172 Tryz.results172 rfl rfl fun C hC I=>?_;refine W.seq (W.region (pE rfl (WO.nil (qs (W.seq ?_)))));apply aG;(case hb=>rfl);·repeat' first | refine bg rfl rfl rfl | refine aH rfl rfl ?_ | refine aE rfl rfl rfl rfl ?_ | refine pE rfl ?_ | refine WO.nil ?_ | (apply aP;(case hj=>rfl);(case hl=>rfl))
 refine qs (W.ret (QF.aw trivial rfl ?_));simp[norm,aI,eg]
end Go.Proofs.YtpiaiiopakafhaaGreatDoor
namespace Go.Proofs.YtpiaiiopakafhaaGreatDoor
open Go.Ab Go.Tb
set_option maxRecDepth 10000
set_option maxHeartbeats 1000000
attribute [local irreducible] W WO Pu QS QB QL QF QV bA CH QE
theorem zK (fid:Nat) (caps:List A) (I:Still caps) (p:ByteArray→Bool) (hp:∀ x:ByteArray,ay Tryz.prog fid (.d (.v (.string x))::caps) (.d (.v (.bool (p x)))) 0) (l:List ByteArray) :
 ay Tryz.prog 148 [.d (.sl (l.map sc)),.clo fid caps] (.d (.v (.int .i64 (idx (l.findIdx? p))))) 0:=by
 refine ay.aZ (n:=19) (ts:=[4]) Tryz.func148 (by kernel_rfl) rfl Tryz.ntmps148 Tryz.results148 rfl rfl fun C hC X=>?_;refine W.seq (W.region (pE rfl (WO.nil (qs ?_))));iterate 2 refine W.seq ?_
 refine W.region ?_;iterate 3 refine pE rfl ?_
 refine WO.nil (qs (W.block (W.len (t:=0) rfl rfl (fun hlen=>?_))));try simp only[List.length_map,Ex.aF] at hlen
 refine W.bh (ι:={x:Nat // match x with | k=>k≤l.length∧bJ p l k})
  (fun x=>match x.1 with | k=>[(8,.d (.v (.int .i64 ((k:Nat):Int))))]) [(0,_),(1,_),(7,_)]
  (fun x=>match x.1 with | k=>[]) [] [] 0 (fun x=>match x.1 with | k=>l.length - k)
  [] ⟨0,?_⟩ rfl ?_ ⟨rfl,(by first | rfl | exact I.2),rfl,(by first | rfl | exact I.2),rfl,(by first | rfl | exact I.2),trivial⟩ ?_ trivial rfl ?_
 ·exact⟨Nat.zero_le _,bJ.zero⟩
 ·repeat' first | exact trivial | refine⟨rfl,?_⟩
 ·repeat' exact trivial
 rintro⟨k,U,M⟩;show W _ _ _ _ _ ⟨[(8,.d (.v (.int .i64 ((k:Nat):Int)))),(0,_),(1,_),(7,_)],[],[],0⟩;refine W.seq (W.region (pE rfl (WO.nil (qs (W.seq (bu (l:=l) (k:=k) rfl (by simp[Ex.aF,au]) U (fun x N hd O=>?_) (fun he hd=>?_)))))));·
  refine W.skip (qs (W.seq (W.block (W.seq (W.region ?_)))));iterate 2 refine pE rfl ?_
  refine WO.nil (qs (W.seq (W.region ?_)));iterate 3 refine pE rfl ?_
  refine pu (indexAddr aa rfl rfl rfl rfl rfl rfl (Int.natCast_nonneg _) (aM (by assumption)) rfl) rfl ?_;refine pE rfl (pu (ao rfl rfl (by rw[List.map_append,I.1 _ 3];rfl) (hp x) rfl) rfl ?_);refine WO.nil (qs (ab rfl (fun J=>?_) (fun J=>?_)));·
   refine W.seq (W.region ?_);iterate 2 refine pE rfl ?_
   refine WO.nil (qs (W.ret (aC (an (cn (aC (an (QF.aw trivial rfl ?_))))))));simp only[norm,aI];rw[M.found N J];rfl
  refine W.skip (be (qs (W.region ?_)));iterate 2 refine pE rfl ?_
  refine WO.nil (W.bt [] ⟨k+1,?_⟩ ?_ rfl ?_ ⟨rfl,(by first | rfl | exact I.2),rfl,(by first | rfl | exact I.2),rfl,(by first | rfl | exact I.2),trivial⟩ ?_ trivial rfl);·exact⟨O,M.step N J⟩
  ·dsimp only;omega
  ·repeat' first | exact trivial | refine⟨aL (by assumption) (by assumption),?_⟩
  repeat' exact trivial
 refine W.exit (aW (aT (aS (qs (W.seq (W.region (pE rfl (WO.nil (qs (W.ret (QF.aw trivial rfl ?_)))))))))));simp only[norm,aI];rw[M.end_ he];rfl
theorem vv (l:List ByteArray) (s:ByteArray):ay Tryz.prog 147 [.d (.sl (l.map sc)),.d (.v (.string s))] (.d (.v (.int .i64 (idx (l.findIdx? fun x=>decide (s=x)))))) 0:=by
 refine ay.aZ (n:=19) (ts:=[4]) Tryz.func147 (by kernel_rfl) rfl Tryz.ntmps147 Tryz.results147 rfl rfl fun C hC U=>?_;refine W.seq (W.region (pE rfl (WO.nil (qs ?_))));iterate 2 refine W.seq ?_
 refine W.region ?_;iterate 3 refine pE rfl ?_
 refine WO.nil (qs (W.block (W.len (t:=0) rfl rfl (fun hlen=>?_))));try simp only[List.length_map,Ex.aF] at hlen
 refine W.bh (ι:={x:Nat // match x with | k=>k≤l.length∧bJ (fun x=>decide (s=x)) l k})
  (fun x=>match x.1 with | k=>[(8,.d (.v (.int .i64 ((k:Nat):Int))))]) [(0,_),(1,_),(7,_)]
  (fun x=>match x.1 with | k=>[]) [] [] 0 (fun x=>match x.1 with | k=>l.length - k)
  [] ⟨0,?_⟩ rfl ?_ ⟨rfl,rfl,rfl,rfl,rfl,rfl,trivial⟩ ?_ trivial rfl ?_
 ·exact⟨Nat.zero_le _,bJ.zero⟩
 ·repeat' first | exact trivial | refine⟨rfl,?_⟩
 ·repeat' exact trivial
 rintro⟨k,O,J⟩;show W _ _ _ _ _ ⟨[(8,.d (.v (.int .i64 ((k:Nat):Int)))),(0,_),(1,_),(7,_)],[],[],0⟩;refine W.seq (W.region (pE rfl (WO.nil (qs (W.seq (bu (l:=l) (k:=k) rfl (by simp[Ex.aF,au]) O (fun x M hd N=>?_) (fun he hd=>?_)))))));·
  refine W.skip (qs (W.seq (W.block (W.seq (W.region ?_)))));iterate 2 refine pE rfl ?_
  refine WO.nil (qs (W.seq (W.region ?_)));iterate 3 refine pE rfl ?_
  refine pu (indexAddr aa rfl rfl rfl rfl rfl rfl (Int.natCast_nonneg _) (aM (by assumption)) rfl) rfl ?_;refine pE rfl (pE rfl (WO.nil (qs (ab rfl (fun I=>?_) (fun I=>?_)))));·
   refine W.seq (W.region ?_);iterate 2 refine pE rfl ?_
   refine WO.nil (qs (W.ret (aC (an (cn (aC (an (QF.aw trivial rfl ?_))))))));simp only[norm,aI];rw[J.found M I];rfl
  refine W.skip (be (qs (W.region ?_)));iterate 2 refine pE rfl ?_
  refine WO.nil (W.bt [] ⟨k+1,?_⟩ ?_ rfl ?_ ⟨rfl,rfl,rfl,rfl,rfl,rfl,trivial⟩ ?_ trivial rfl);·exact⟨N,J.step M I⟩
  ·dsimp only;omega
  ·repeat' first | exact trivial | refine⟨aL (by assumption) (by assumption),?_⟩
  repeat' exact trivial
 refine W.exit (aW (aT (aS (qs (W.seq (W.region (pE rfl (WO.nil (qs (W.ret (QF.aw trivial rfl ?_)))))))))));simp only[norm,aI];rw[J.end_ he];rfl
theorem wI (l:List ByteArray) (s:ByteArray):ay Tryz.prog 99 [.d (.sl (l.map sc)),.d (.v (.string s))] (.d (.v (.bool (l.any fun x=>decide (s=x))))) 0:=by
 refine ay.aZ (n:=9) (ts:=[4]) Tryz.func99 (by kernel_rfl) rfl Tryz.ntmps99 Tryz.results99 rfl rfl fun C hC I=>?_;refine W.seq (W.region (pE rfl (WO.nil (qs (W.seq (W.region ?_))))));iterate 2 refine pE rfl ?_
 refine pu (ao rfl rfl rfl (vv ..) rfl) rfl ?_;iterate 2 refine pE rfl ?_
 refine WO.nil (qs (W.ret (QF.aw trivial rfl ?_)));simp only[norm,aI];rw[←jv]
theorem r9 (fid:Nat) (caps:List A) (I:Still caps) (p:ByteArray→Bool) (hp:∀ x:ByteArray,ay Tryz.prog fid (.d (.v (.string x))::caps) (.d (.v (.bool (p x)))) 0) (l:List ByteArray) :
 ay Tryz.prog 97 [.d (.sl (l.map sc)),.clo fid caps] (.d (.v (.bool (l.any p)))) 0:=by
 refine ay.aZ (n:=9) (ts:=[4]) Tryz.func97 (by kernel_rfl) rfl Tryz.ntmps97 Tryz.results97 rfl rfl fun C hC J=>?_;refine W.seq (W.region (pE rfl (WO.nil (qs (W.seq (W.region ?_))))));iterate 2 refine pE rfl ?_
 refine pu (ao (args:=[.d (.sl (l.map sc)),.clo fid caps]) rfl rfl (by simp[conv,I.1 _ 2]) (zK fid caps I p hp l) rfl) rfl ?_;iterate 2 refine pE rfl ?_
 refine WO.nil (qs (W.ret (QF.aw trivial rfl ?_)));simp only[norm,aI];rw[←jv]
end Go.Proofs.YtpiaiiopakafhaaGreatDoor
namespace Go.Proofs.YtpiaiiopakafhaaGreatDoor
open Go.Ab Go.Tb
set_option maxRecDepth 10000
set_option maxHeartbeats 1000000
attribute [local irreducible] W WO Pu QS QB QL QF QV bA CH QE
theorem EZ (s:ByteArray) (b:UInt8):ay Tryz.prog 161 [.d (.v (.string s)),.d (.v (.int .u8 b.toNat))] (.d (.v (.int .i64 (Lib.indexByte (ak s) b)))) 0:=by
 refine ay.aZ (n:=8) (ts:=[4]) Tryz.func161 (by kernel_rfl) rfl Tryz.ntmps161 Tryz.results161 rfl rfl fun C hC I=>?_;refine W.jC (t:=0) rfl (fun hok=>?_);refine W.seq (W.region (pE rfl (WO.nil (qs (W.seq (W.region ?_))))));iterate 2 refine pE rfl ?_
 refine pu (F7 (vs:=[.string s,.int .u8 b.toNat]) rfl rfl (fun w=>(run_callFunc_extern Tryz.func179 (by kernel_rfl) (by kernel_rfl) (by kernel_rfl) (by kernel_rfl) #[.string s,.int .u8 b.toNat] w).trans (by rw[show(Extern.BytealgIndexByte.indexByte #[.string s,.int .u8 b.toNat]).run Tryz.prog w=_ from Lib.run_indexByteString s b.toNat w];rfl)) (vS hok _)) rfl ?_;refine pE rfl (WO.nil (qs (W.ret (QF.aw trivial rfl ?_))));simp[norm,aI,ak]
theorem xt (s:ByteArray) (b:UInt8):ay Tryz.prog 119 [.d (.v (.string s)),.d (.v (.int .u8 b.toNat))] (.d (.v (.int .i64 (Lib.indexByte (ak s) b)))) 0:=by
 refine ay.aZ (n:=8) (ts:=[4]) Tryz.func119 (by kernel_rfl) rfl Tryz.ntmps119 Tryz.results119 rfl rfl fun C hC I=>?_;refine W.seq (W.region (pE rfl (WO.nil (qs (W.seq (W.region ?_))))));iterate 2 refine pE rfl ?_
 refine pu (ao rfl rfl rfl (EZ ..) rfl) rfl ?_;refine pE rfl (WO.nil (qs (W.ret (QF.aw trivial rfl ?_))));rfl
theorem Am (b:UInt8):ay Tryz.prog 122 [.d (.v (.int .u8 b.toNat))] (.d (.v (.bool (fH b)))) 0:=by
 refine ay.aZ (n:=30) (ts:=[2]) Tryz.func122 (by kernel_rfl) rfl Tryz.ntmps122 Tryz.results122 rfl rfl fun C hC I=>?_;refine W.seq (W.region (pE rfl (WO.nil (qs (W.seq ?_)))));apply aG;(case hb=>rfl);·repeat' first | refine bg rfl rfl rfl | refine aH rfl rfl ?_ | refine aE rfl rfl rfl rfl ?_ | refine iv rfl rfl rfl ?_ | refine pE rfl ?_ | refine WO.nil ?_ | refine pu (ao rfl rfl rfl (xt ..) rfl) rfl ?_ | (apply aP;(case hj=>rfl);(case hl=>rfl))
 refine qs (W.ret (QF.aw trivial rfl ?_));simp only[norm,aI];rw[tR];simp only[fH,lower,marks];simp[ak];grind
theorem pb (s:ByteArray):ay Tryz.prog 75 [.d (.v (.string s))] (.d (.v (.int .i64 (bE s)))) 0:=by
 refine ay.aZ (n:=22) (ts:=[2]) Tryz.func75 (by kernel_rfl) rfl Tryz.ntmps75 Tryz.results75 rfl rfl fun C hC U=>?_;refine W.seq (W.region (pE rfl (WO.nil (qs ?_))));iterate 2 refine W.seq ?_
 apply aG;(case hb=>rfl);·repeat' first | refine bg rfl rfl rfl | refine aH rfl rfl ?_ | refine aE rfl rfl rfl rfl ?_ | refine pE rfl ?_ | refine WO.nil ?_ | (apply aP;(case hj=>rfl);(case hl=>rfl))
 refine qs (ab rfl (fun J=>?_) (fun J=>?_));·
  refine W.seq (W.region (pE rfl (WO.nil (qs (W.ret (an (QF.aw trivial rfl ?_)))))));simp only[norm,aI];grind[bE,mj]
 refine W.skip (qs ?_);iterate 2 refine W.seq ?_
 refine W.region ?_;iterate 3 refine pE rfl ?_
 refine WO.nil (qs (W.block (W.jC (t:=0) rfl (fun hok=>?_))));have hlen:=iR hok
 refine W.bh (ι:={x:Nat // match x with | k=>k≤(ak s).length∧((ak s).drop k).all fH=(ak s).all fH})
  (fun x=>match x.1 with | k=>[(13,.d (.v (.int .i64 ((k:Nat):Int))))]) [(0,_),(12,_)]
  (fun x=>match x.1 with | k=>[]) [] [] 0 (fun x=>match x.1 with | k=>(ak s).length - k)
  [] ⟨0,?_⟩ rfl ?_ ⟨rfl,rfl,rfl,rfl,trivial⟩ ?_ trivial rfl ?_
 ·exact⟨Nat.zero_le _,rfl⟩
 ·repeat' first | exact trivial | refine⟨rfl,?_⟩
 ·repeat' exact trivial
 rintro⟨k,O,I⟩;show W _ _ _ _ _ ⟨[(13,.d (.v (.int .i64 ((k:Nat):Int)))),(0,_),(12,_)],[],[],0⟩;refine W.seq (W.region (pE rfl (WO.nil (qs (W.seq (bu (l:=ak s) (k:=k) rfl (by simp[Ex.aF,au]) O (fun b X hd M=>?_) (fun he hd=>?_)))))));·
  rw[hd,List.all_cons] at I;refine W.skip (qs (W.seq (W.block (W.seq (W.region ?_)))));iterate 2 refine pE rfl ?_
  refine WO.nil (qs (W.seq (W.region ?_)));iterate 2 refine pE rfl ?_
  refine pu (db aa rfl rfl rfl rfl (Int.natCast_nonneg _) (eZ (by assumption))) rfl ?_;refine pu (ao rfl rfl rfl (Am ..) rfl) rfl ?_;refine pE rfl (WO.nil (qs (ab rfl (fun N=>?_) (fun N=>?_))));·
   refine W.seq (W.region (pE rfl (WO.nil (qs (W.ret (aC (an (cn (aC (an (QF.aw trivial rfl ?_)))))))))));simp only[norm,aI];grind[bE,mj]
  refine W.skip (be (qs (W.region ?_)));iterate 2 refine pE rfl ?_
  refine WO.nil (W.bt [] ⟨k+1,?_⟩ ?_ rfl ?_ ⟨rfl,rfl,rfl,rfl,trivial⟩ ?_ trivial rfl);·exact⟨M,by rw[←I];simp_all⟩
  ·dsimp only;omega
  ·repeat' first | exact trivial | refine⟨aL (by assumption) (by assumption),?_⟩
  repeat' exact trivial
 rw[hd] at I;refine W.exit (aW (aT (aS (qs (W.seq (W.region (pE rfl (WO.nil (qs (W.ret (QF.aw trivial rfl ?_)))))))))));simp only[norm,aI];grind[bE,mj]
end Go.Proofs.YtpiaiiopakafhaaGreatDoor
namespace Go.Proofs
open Go.Shelf
def Tryz.pH:Go.Shelf.Ren:=⟨fun | 169=>90 | n=>n,fun | 70=>147 | 9=>9 | 0=>0 | 72=>150 | 37=>148 | 127=>201 | 3=>3 | 5=>5 | n=>n,fun | n=>n⟩
theorem Tryz.C7:Go.Proofs.Lays.n169 Tryz.prog Tryz.pH:={
 mixed:=by kernel_rfl
 f169:=Tryz.func90.trans (congrArg some (by kernel_rfl))
 t0:=Tryz.underlying0
 a0:=Tryz.isAgg0
 z0:=Tryz.sizeOf0
 v0:=Tryz.zeroValue0
 t3:=Tryz.underlying3
 a3:=Tryz.isAgg3
 z3:=Tryz.sizeOf3
 v3:=Tryz.zeroValue3
 t9:=Tryz.underlying9
 a9:=Tryz.isAgg9
 z9:=Tryz.sizeOf9
 v9:=Tryz.zeroValue9
 t37:=Tryz.underlying148
 a37:=Tryz.isAgg148
 z37:=Tryz.sizeOf148
 v37:=Tryz.zeroValue148
 t70:=Tryz.underlying147
 a70:=Tryz.isAgg147
 z70:=Tryz.sizeOf147
 v70:=Tryz.zeroValue147
 t72:=Tryz.underlying150
 a72:=Tryz.isAgg150
 z72:=Tryz.sizeOf150
 v72:=Tryz.zeroValue150
 t127:=Tryz.underlying201
 a127:=Tryz.isAgg201
 z127:=Tryz.sizeOf201
 v127:=Tryz.zeroValue201 }
theorem Tryz.pC:Builder.Extra Tryz.prog Tryz.pH:={
 sizeBuilder:=by kernel_rfl
 liesBuilder:=by kernel_rfl
 t5:=Tryz.underlying5
 a5:=Tryz.isAgg5
 z5:=Tryz.sizeOf5
 v5:=Tryz.zeroValue5
 infoByte:=by kernel_rfl
 cellsByte:=by kernel_rfl
 sizeByte:=by kernel_rfl
 neB5:=by decide }
open Go.RowKit in
theorem Tryz.Builder_String_any (B b:Nat) (l:List UInt8) (w:World) (h:Lib.IsBuilder 150 5 B b (Lib.byteCells l) w) (I:B≤w.heap.size) :
 Calls Tryz.prog 90 #[.pointer (some ⟨b,0,none⟩)] w fun e w'=>e=.returned (.string ⟨l.toArray⟩)∧Below B w w':=Any.Builder_String_any Tryz.C7 Tryz.pC B b l w h I
def Tryz.wj:Go.Shelf.Ren:=⟨fun | 171=>76 | 243=>123 | 246=>163 | 283=>180 | 284=>181 | 285=>182 | 286=>183 | 129=>192 | 317=>191 | 318=>193 | 319=>194 | 320=>195 | 337=>202 | 338=>203 | n=>n,fun | 3=>3 | 9=>9 | 2=>2 | 4=>4 | 171=>219 | 0=>0 | 53=>220 | 37=>148 | 5=>5 | 173=>223 | 212=>230 | 51=>231 | 20=>20 | 213=>232 | 46=>233 | 232=>248 | 233=>249 | n=>n,fun | 17=>1 | 18=>4 | 19=>5 | n=>n⟩
theorem Tryz.Ck:Go.Proofs.LaysM.n171 Tryz.prog Tryz.wj:={
 mixed:=by kernel_rfl
 f129:=Tryz.func192.trans (congrArg some (by kernel_rfl))
 f171:=Tryz.func76.trans (congrArg some (by kernel_rfl))
 f243:=Tryz.func123.trans (congrArg some (by kernel_rfl))
 f246:=Tryz.func163.trans (congrArg some (by kernel_rfl))
 f283:=Tryz.func180.trans (congrArg some (by kernel_rfl))
 f284:=Tryz.func181.trans (congrArg some (by kernel_rfl))
 f285:=Tryz.func182.trans (congrArg some (by kernel_rfl))
 f286:=Tryz.func183.trans (congrArg some (by kernel_rfl))
 f317:=Tryz.func191.trans (congrArg some (by kernel_rfl))
 f318:=Tryz.func193.trans (congrArg some (by kernel_rfl))
 f319:=Tryz.func194.trans (congrArg some (by kernel_rfl))
 f320:=Tryz.func195.trans (congrArg some (by kernel_rfl))
 f337:=Tryz.func202.trans (congrArg some (by kernel_rfl))
 f338:=Tryz.func203.trans (congrArg some (by kernel_rfl))
 t0:=Tryz.underlying0
 a0:=Tryz.isAgg0
 z0:=Tryz.sizeOf0
 v0:=Tryz.zeroValue0
 t2:=Tryz.underlying2
 a2:=Tryz.isAgg2
 z2:=Tryz.sizeOf2
 v2:=Tryz.zeroValue2
 t3:=Tryz.underlying3
 a3:=Tryz.isAgg3
 z3:=Tryz.sizeOf3
 v3:=Tryz.zeroValue3
 t4:=Tryz.underlying4
 a4:=Tryz.isAgg4
 z4:=Tryz.sizeOf4
 v4:=Tryz.zeroValue4
 t5:=Tryz.underlying5
 a5:=Tryz.isAgg5
 z5:=Tryz.sizeOf5
 v5:=Tryz.zeroValue5
 t9:=Tryz.underlying9
 a9:=Tryz.isAgg9
 z9:=Tryz.sizeOf9
 v9:=Tryz.zeroValue9
 t20:=Tryz.underlying20
 a20:=Tryz.isAgg20
 z20:=Tryz.sizeOf20
 v20:=Tryz.zeroValue20
 t37:=Tryz.underlying148
 a37:=Tryz.isAgg148
 z37:=Tryz.sizeOf148
 v37:=Tryz.zeroValue148
 t46:=Tryz.underlying233
 a46:=Tryz.isAgg233
 z46:=Tryz.sizeOf233
 v46:=Tryz.zeroValue233
 t51:=Tryz.underlying231
 a51:=Tryz.isAgg231
 z51:=Tryz.sizeOf231
 v51:=Tryz.zeroValue231
 t53:=Tryz.underlying220
 a53:=Tryz.isAgg220
 z53:=Tryz.sizeOf220
 v53:=Tryz.zeroValue220
 t171:=Tryz.underlying219
 a171:=Tryz.isAgg219
 z171:=Tryz.sizeOf219
 v171:=Tryz.zeroValue219
 t173:=Tryz.underlying223
 a173:=Tryz.isAgg223
 z173:=Tryz.sizeOf223
 v173:=Tryz.zeroValue223
 t212:=Tryz.underlying230
 a212:=Tryz.isAgg230
 z212:=Tryz.sizeOf230
 v212:=Tryz.zeroValue230
 t213:=Tryz.underlying232
 a213:=Tryz.isAgg232
 z213:=Tryz.sizeOf232
 t232:=Tryz.underlying248
 a232:=Tryz.isAgg248
 z232:=Tryz.sizeOf248
 v232:=Tryz.zeroValue248
 t233:=Tryz.underlying249
 a233:=Tryz.isAgg249
 z233:=Tryz.sizeOf249
 v233:=Tryz.zeroValue249
 g17:=by kernel_rfl
 g18:=by kernel_rfl
 g19:=by kernel_rfl
 i0:=by kernel_rfl
 i2:=by kernel_rfl
 i3:=by kernel_rfl
 i4:=by kernel_rfl
 i5:=by kernel_rfl
 i9:=by kernel_rfl
 i20:=by kernel_rfl
 i37:=by kernel_rfl
 i46:=by kernel_rfl
 i51:=by kernel_rfl
 i53:=by kernel_rfl
 i171:=by kernel_rfl
 i173:=by kernel_rfl
 i212:=by kernel_rfl
 i232:=by kernel_rfl
 i233:=by kernel_rfl
 m17:=by kernel_rfl
 m18:=by kernel_rfl
 m19:=by kernel_rfl }
open Go.RowKit Go.Sort Go.Lib in
theorem Tryz.strconv_Itoa (n:Int) (h0:-9223372036854775808≤n) (h1:n≤9223372036854775807) (w:World) (I:Lib.TabIs Tryz.prog w "internal/strconv.uint64pow10" .u64 Lib.pow10Tab) :
 Calls Tryz.prog 76 #[.int .i64 n] w fun e w'=>e=.returned (.string ⟨(Lib.itoa n).toArray⟩)∧∃ k os,w'=grow (w.drewN k) os:=Any.strconv_Itoa Tryz.Ck n h0 h1 w I
def Tryz.uy:Go.Shelf.Ren:=⟨fun | 172=>177 | 244=>189 | 245=>190 | 247=>197 | 279=>198 | 280=>199 | 281=>200 | 282=>201 | 287=>204 | 316=>205 | 171=>76 | 205=>206 | 321=>207 | 322=>208 | 243=>123 | 246=>163 | 283=>180 | 284=>181 | 285=>182 | 286=>183 | 129=>192 | 317=>191 | 318=>193 | 319=>194 | 320=>195 | 337=>202 | 338=>203 | n=>n,fun | 9=>9 | 3=>3 | 75=>196 | 76=>197 | 4=>4 | 5=>5 | 167=>236 | 37=>148 | 0=>0 | 85=>237 | 2=>2 | 168=>239 | 53=>220 | 175=>243 | 46=>233 | 210=>246 | 127=>201 | 145=>253 | 143=>251 | 21=>21 | 171=>219 | 173=>223 | 212=>230 | 51=>231 | 20=>20 | 213=>232 | 232=>248 | 233=>249 | 80=>152 | n=>n,fun | 15=>2 | 16=>3 | 17=>1 | 18=>4 | 19=>5 | n=>n⟩
theorem Tryz.qw:Go.Proofs.LaysC.n172 Tryz.prog Tryz.uy:={
 mixed:=by kernel_rfl
 f129:=Tryz.func192.trans (congrArg some (by kernel_rfl))
 f171:=Tryz.func76.trans (congrArg some (by kernel_rfl))
 f172:=Tryz.func177.trans (congrArg some (by kernel_rfl))
 f205:=Tryz.func206.trans (congrArg some (by kernel_rfl))
 f243:=Tryz.func123.trans (congrArg some (by kernel_rfl))
 f244:=Tryz.func189.trans (congrArg some (by kernel_rfl))
 f245:=Tryz.func190.trans (congrArg some (by kernel_rfl))
 f246:=Tryz.func163.trans (congrArg some (by kernel_rfl))
 f247:=Tryz.func197.trans (congrArg some (by kernel_rfl))
 f279:=Tryz.func198.trans (congrArg some (by kernel_rfl))
 f280:=Tryz.func199.trans (congrArg some (by kernel_rfl))
 f281:=Tryz.func200.trans (congrArg some (by kernel_rfl))
 f282:=Tryz.func201.trans (congrArg some (by kernel_rfl))
 f283:=Tryz.func180.trans (congrArg some (by kernel_rfl))
 f284:=Tryz.func181.trans (congrArg some (by kernel_rfl))
 f285:=Tryz.func182.trans (congrArg some (by kernel_rfl))
 f286:=Tryz.func183.trans (congrArg some (by kernel_rfl))
 f287:=Tryz.func204.trans (congrArg some (by kernel_rfl))
 f316:=Tryz.func205.trans (congrArg some (by kernel_rfl))
 f317:=Tryz.func191.trans (congrArg some (by kernel_rfl))
 f318:=Tryz.func193.trans (congrArg some (by kernel_rfl))
 f319:=Tryz.func194.trans (congrArg some (by kernel_rfl))
 f320:=Tryz.func195.trans (congrArg some (by kernel_rfl))
 f321:=Tryz.func207.trans (congrArg some (by kernel_rfl))
 f322:=Tryz.func208.trans (congrArg some (by kernel_rfl))
 f337:=Tryz.func202.trans (congrArg some (by kernel_rfl))
 f338:=Tryz.func203.trans (congrArg some (by kernel_rfl))
 t0:=Tryz.underlying0
 a0:=Tryz.isAgg0
 z0:=Tryz.sizeOf0
 v0:=Tryz.zeroValue0
 t2:=Tryz.underlying2
 a2:=Tryz.isAgg2
 z2:=Tryz.sizeOf2
 v2:=Tryz.zeroValue2
 t3:=Tryz.underlying3
 a3:=Tryz.isAgg3
 z3:=Tryz.sizeOf3
 v3:=Tryz.zeroValue3
 t4:=Tryz.underlying4
 a4:=Tryz.isAgg4
 z4:=Tryz.sizeOf4
 v4:=Tryz.zeroValue4
 t5:=Tryz.underlying5
 a5:=Tryz.isAgg5
 z5:=Tryz.sizeOf5
 v5:=Tryz.zeroValue5
 t9:=Tryz.underlying9
 a9:=Tryz.isAgg9
 z9:=Tryz.sizeOf9
 v9:=Tryz.zeroValue9
 t20:=Tryz.underlying20
 a20:=Tryz.isAgg20
 z20:=Tryz.sizeOf20
 v20:=Tryz.zeroValue20
 t21:=Tryz.underlying21
 a21:=Tryz.isAgg21
 z21:=Tryz.sizeOf21
 v21:=Tryz.zeroValue21
 t37:=Tryz.underlying148
 a37:=Tryz.isAgg148
 z37:=Tryz.sizeOf148
 v37:=Tryz.zeroValue148
 t46:=Tryz.underlying233
 a46:=Tryz.isAgg233
 z46:=Tryz.sizeOf233
 v46:=Tryz.zeroValue233
 t51:=Tryz.underlying231
 a51:=Tryz.isAgg231
 z51:=Tryz.sizeOf231
 v51:=Tryz.zeroValue231
 t53:=Tryz.underlying220
 a53:=Tryz.isAgg220
 z53:=Tryz.sizeOf220
 v53:=Tryz.zeroValue220
 t75:=Tryz.underlying196
 a75:=Tryz.isAgg196
 z75:=Tryz.sizeOf196
 v75:=Tryz.zeroValue196
 t76:=Tryz.underlying197
 a76:=Tryz.isAgg197
 z76:=Tryz.sizeOf197
 v76:=Tryz.zeroValue197
 t85:=Tryz.underlying237
 a85:=Tryz.isAgg237
 z85:=Tryz.sizeOf237
 v85:=Tryz.zeroValue237
 t127:=Tryz.underlying201
 a127:=Tryz.isAgg201
 z127:=Tryz.sizeOf201
 v127:=Tryz.zeroValue201
 t143:=Tryz.underlying251
 a143:=Tryz.isAgg251
 z143:=Tryz.sizeOf251
 v143:=Tryz.zeroValue251
 t145:=Tryz.underlying253
 a145:=Tryz.isAgg253
 z145:=Tryz.sizeOf253
 v145:=Tryz.zeroValue253
 t167:=Tryz.underlying236
 a167:=Tryz.isAgg236
 z167:=Tryz.sizeOf236
 v167:=Tryz.zeroValue236
 t168:=Tryz.underlying239
 a168:=Tryz.isAgg239
 z168:=Tryz.sizeOf239
 v168:=Tryz.zeroValue239
 t171:=Tryz.underlying219
 a171:=Tryz.isAgg219
 z171:=Tryz.sizeOf219
 v171:=Tryz.zeroValue219
 t173:=Tryz.underlying223
 a173:=Tryz.isAgg223
 z173:=Tryz.sizeOf223
 v173:=Tryz.zeroValue223
 t175:=Tryz.underlying243
 a175:=Tryz.isAgg243
 z175:=Tryz.sizeOf243
 v175:=Tryz.zeroValue243
 t210:=Tryz.underlying246
 a210:=Tryz.isAgg246
 z210:=Tryz.sizeOf246
 v210:=Tryz.zeroValue246
 t212:=Tryz.underlying230
 a212:=Tryz.isAgg230
 z212:=Tryz.sizeOf230
 v212:=Tryz.zeroValue230
 t213:=Tryz.underlying232
 a213:=Tryz.isAgg232
 z213:=Tryz.sizeOf232
 t232:=Tryz.underlying248
 a232:=Tryz.isAgg248
 z232:=Tryz.sizeOf248
 v232:=Tryz.zeroValue248
 t233:=Tryz.underlying249
 a233:=Tryz.isAgg249
 z233:=Tryz.sizeOf249
 v233:=Tryz.zeroValue249
 g15:=by kernel_rfl
 g16:=by kernel_rfl
 g17:=by kernel_rfl
 g18:=by kernel_rfl
 g19:=by kernel_rfl
 t80:=Tryz.underlying152
 a80:=Tryz.isAgg152
 z80:=Tryz.sizeOf152
 v80:=Tryz.zeroValue152
 i0:=by kernel_rfl
 i2:=by kernel_rfl
 i3:=by kernel_rfl
 i4:=by kernel_rfl
 i5:=by kernel_rfl
 i9:=by kernel_rfl
 i20:=by kernel_rfl
 i21:=by kernel_rfl
 i37:=by kernel_rfl
 i46:=by kernel_rfl
 i51:=by kernel_rfl
 i53:=by kernel_rfl
 i75:=by kernel_rfl
 i76:=by kernel_rfl
 i80:=by kernel_rfl
 i85:=by kernel_rfl
 i127:=by kernel_rfl
 i143:=by kernel_rfl
 i145:=by kernel_rfl
 i167:=by kernel_rfl
 i168:=by kernel_rfl
 i171:=by kernel_rfl
 i173:=by kernel_rfl
 i175:=by kernel_rfl
 i210:=by kernel_rfl
 i212:=by kernel_rfl
 i232:=by kernel_rfl
 i233:=by kernel_rfl
 m15:=by kernel_rfl
 m16:=by kernel_rfl
 m17:=by kernel_rfl
 m18:=by kernel_rfl
 m19:=by kernel_rfl
 c0:=by kernel_rfl
 c2:=by kernel_rfl
 c3:=by kernel_rfl
 c4:=by kernel_rfl
 c5:=by kernel_rfl
 c9:=by kernel_rfl
 c20:=by kernel_rfl
 c21:=by kernel_rfl
 c37:=by kernel_rfl
 c46:=by kernel_rfl
 c51:=by kernel_rfl
 c53:=by kernel_rfl
 c75:=by kernel_rfl
 c76:=by kernel_rfl
 c80:=by kernel_rfl
 c85:=by kernel_rfl
 c127:=by kernel_rfl
 c143:=by kernel_rfl
 c145:=by kernel_rfl
 c167:=by kernel_rfl
 c168:=by kernel_rfl
 c171:=by kernel_rfl
 c173:=by kernel_rfl
 c175:=by kernel_rfl
 c210:=by kernel_rfl
 c212:=by kernel_rfl
 c213:=by kernel_rfl
 c232:=by kernel_rfl
 c233:=by kernel_rfl }
open Go.RowKit in
theorem Tryz.strconv_Atoi_ok (s:ByteArray) (I:s.size≤9223372036854775806) (v:Int) (h:Lib.atoiAll s.data.toList=.ok v) (w:World) :
 Calls Tryz.prog 177 #[.string s] w fun e w'=>e=.returned (.tuple #[.int .i64 v,.nilIface])∧(w'=w∨∃ t,w'=Lib.bytesWorld w 5 t):=Any.strconv_Atoi_ok Tryz.qw s I v h w
open Go.RowKit in
theorem Tryz.strconv_Atoi_syntax_var (s:ByteArray) (I:s.size≤281474976710656) (h:Lib.atoiAll s.data.toList=Lib.atoiAll []) (J:TypeId) (p:Value) (w:World) (M:w.var? Tryz.prog "strconv.ErrSyntax" = some #[.iface J p]) :
 Calls Tryz.prog 177 #[.string s] w fun e w'=>∃ N,e=.returned (.tuple #[.int .i64 0,.iface 239 (.pointer (some ⟨N,0,none⟩))])∧w.heap.size≤N∧w'.heap[N]? = some (.cells #[.string ⟨#[65,116,111,105]⟩,.string s,.iface J p] 246 (0,0))∧Below w.heap.size w w':=Any.strconv_Atoi_syntax_var Tryz.qw s I h J p w M
open Go.RowKit in
theorem Tryz.strconv_Atoi_range_var (s:ByteArray) (I:s.size≤281474976710656) (h:Lib.atoiAll s.data.toList=.range) (J:TypeId) (p:Value) (w:World) (M:w.var? Tryz.prog "strconv.ErrRange" = some #[.iface J p]) :
 Calls Tryz.prog 177 #[.string s] w fun e w'=>∃ N,e=.returned (.tuple #[.int .i64 (Lib.atoiSat s.data.toList),.iface 239 (.pointer (some ⟨N,0,none⟩))])∧w.heap.size≤N∧w'.heap[N]? = some (.cells #[.string ⟨#[65,116,111,105]⟩,.string s,.iface J p] 246 (0,0))∧Below w.heap.size w w':=Any.strconv_Atoi_range_var Tryz.qw s I h J p w M
end Go.Proofs
namespace Go.Proofs.YtpiaiiopakafhaaGreatDoor
open Go.Ab Go.Tb
set_option maxRecDepth 10000
set_option maxHeartbeats 1000000
attribute [local irreducible] W WO Pu QS QB QL QF QV bA CH QE
theorem jc {a b:ByteArray} (h:a.data.toList=b.data.toList):a=b:=by cases a;cases b;simp at h;exact congrArg _ h
theorem sP {n:Int} (h:n.natAbs < 10 ^ 20):(dv n).size≤21:=by
 have e:(dv n).size=(Lib.itoa n).length:=Array.length_toList.symm;rw[e];rcases Int.lt_or_le n 0 with I | I
 ·rw[jG I,List.length_cons];have:=uM n.natAbs 19 h;omega
 rw[jF I];have:=uM n.toNat 19 (by omega);omega
theorem iY (n:Int) (ok:Bool):ay Tryz.prog 178 [.d (.v (.int .i64 n)),.d (.v (.bool ok))] (.tup [.d (.v (.int .i64 (if ok && eg n then n else 0))),.d (.v (.bool (ok && eg n)))]) 0:=by
 refine ay.aZ (n:=14) (ts:=[4,5]) Tryz.func178 (by kernel_rfl) rfl Tryz.ntmps178 Tryz.results178 rfl rfl fun C hC J=>?_;refine W.seq (W.region ?_);iterate 2 refine pE rfl ?_
 refine WO.nil (qs ?_);iterate 2 refine W.seq ?_
 apply aG;(case hb=>rfl);·repeat' first | refine bg rfl rfl rfl | refine aH rfl rfl ?_ | refine aE rfl rfl rfl rfl ?_ | refine pE rfl ?_ | refine WO.nil ?_ | refine pu (ao rfl rfl rfl (CU ..) rfl) rfl ?_ | (apply aP;(case hj=>rfl);(case hl=>rfl))
 refine qs (ab rfl (fun I=>?_) (fun I=>?_));·
  refine W.seq (W.region ?_);iterate 2 refine pE rfl ?_
  refine WO.nil (qs (W.ret (an (QF.aw trivial rfl ?_))));cases ok <;> cases h:eg n <;> simp_all[norm,iJ,aI]
 refine W.skip (qs (W.seq (W.region ?_)));iterate 3 refine pE rfl ?_
 refine WO.nil (qs (W.ret (QF.aw trivial rfl ?_)));cases ok <;> cases h:eg n <;> simp_all[norm,iJ,aI]
end Go.Proofs.YtpiaiiopakafhaaGreatDoor
namespace Go.Proofs.YtpiaiiopakafhaaGreatDoor
open Go.Ab Go.Tb
set_option maxRecDepth 10000
set_option maxHeartbeats 1000000
attribute [local irreducible] W WO Pu QS QB QL QF QV bA CH QE
theorem AX {w:World} (hu:jU Tryz.prog w):mK Tryz.prog w:=hu.num (fun _ h=>h)
theorem C1 {n:Int} (h:n.natAbs < 10 ^ 20):cu (.string (dv n))=true:=by have:=sP h;exact decide_eq_true (by simp only[maxLen];omega)
theorem DH {n:Int} (h0:-9223372036854775808≤n) (h1:n≤9223372036854775807):n.natAbs < 10 ^ 20:=by
 have hp:(10:Nat) ^ 20=100000000000000000000:=by decide
 omega
open Go.RowKit in
theorem DG (n:Int) (h0:-9223372036854775808≤n) (h1:n≤9223372036854775807):ay Tryz.prog 76 [.d (.v (.int .i64 n))] (.d (.v (.string (dv n)))) 0:=
 ay.tH (xs:=[.int .i64 n]) ⟨_,Tryz.func76,by kernel_rfl,by kernel_rfl⟩ fun w hu _=>(Tryz.strconv_Itoa n h0 h1 w (AX hu).1).mono fun e w' ⟨he,k,os,hw⟩=>⟨_,he,hw▸Lib.below_grow _ w (Nat.le_refl _) k os,fun _ _ _=>.d (.v _ (C1 (DH h0 h1)))⟩
theorem mF (n:Int) (h0:-9223372036854775808≤n) (h1:n≤9223372036854775807):ay Tryz.prog 25 [.d (.v (.int .i64 n))] (.d (.v (.string (dv n)))) 0:=by refine ay.aZ (n:=5) (ts:=[2]) Tryz.func25 (by kernel_rfl) rfl Tryz.ntmps25 Tryz.results25 rfl rfl fun C hC I=>?_;refine W.seq (W.region (pE rfl (WO.nil (qs (W.seq (W.region (pE rfl (pu (ao rfl rfl rfl ((DG _ (by assumption) (by assumption))) rfl) rfl ?_))))))));refine pE rfl (WO.nil (qs (W.ret (QF.aw trivial rfl ?_))));rfl
def yD (s:ByteArray):A:=
 match Lib.atoiAll s.data.toList with
 | .ok v=>.tup [.d (.v (.int .i64 v)),.d (.v .nilIface)]
 | .range=>.tup [.d (.v (.int .i64 (Lib.atoiSat s.data.toList))),.ni]
 | _=>.tup [.d (.v (.int .i64 0)),.ni]
theorem Ej (l:List UInt8):cu (.int .i64 (Lib.atoiSat l))=true:=by unfold Lib.atoiSat;split <;> (try split) <;> decide
open Go.RowKit in
theorem D6 (s:ByteArray) (hs:s.size≤281474976710656):ay Tryz.prog 177 [.d (.v (.string s))] (yD s) 0:=
 ay.tH (xs:=[.string s]) ⟨_,Tryz.func177,by kernel_rfl,by kernel_rfl⟩ fun w hu _=>by
  obtain⟨_,⟨t,p,h2⟩,t',I,h3⟩:=AX hu;unfold yD
  cases h:Lib.atoiAll s.data.toList with
  | ok v=>
   have hb:=Lib.atoiAll_bounds h;refine(Tryz.strconv_Atoi_ok s (by omega) v h w).mono fun e w' ⟨he,hw⟩=>⟨_,he,?_,fun _ _ _=>sr (.d (.v _ ?_)) (.d (.v _ rfl))⟩;·
    rcases hw with rfl | ⟨t,rfl⟩
    ·exact Below.refl _ _
    exact Joins.below_bytesWorld _ w _ _ (Nat.le_refl _)
   simp[cu,IntKind.min,IntKind.max,IntKind.signed,IntKind.bits];omega
  | range=>exact(Tryz.strconv_Atoi_range_var s hs h t' I w h3).mono fun e w' ⟨N,he,_,_,hb⟩=>⟨_,he,hb,fun _ _ _=>sr (.d (.v _ (Ej _))) (.ni _ _)⟩
  | _=>exact(Tryz.strconv_Atoi_syntax_var s hs h t p w h2).mono fun e w' ⟨N,he,_,_,hb⟩=>⟨_,he,hb,fun _ _ _=>sr (.d (.v _ (by decide))) (.ni _ _)⟩
end Go.Proofs.YtpiaiiopakafhaaGreatDoor
namespace Go.Proofs.YtpiaiiopakafhaaGreatDoor
open Go.Ab Go.Tb
set_option maxRecDepth 10000
set_option maxHeartbeats 1000000
attribute [local irreducible] W WO Pu QS QB QL QF QV bA CH QE
end Go.Proofs.YtpiaiiopakafhaaGreatDoor
namespace Go.Proofs.YtpiaiiopakafhaaGreatDoor
open Go.Ab Go.Tb
set_option maxRecDepth 10000
set_option maxHeartbeats 1000000
attribute [local irreducible] W WO Pu QS QB QL QF QV bA CH QE
def kS:ByteArray:=B #[95,46,58,47,60,62,36,42,126,45]
theorem xR (b:UInt8):ay Tryz.prog 130 [.d (.v (.int .u8 b.toNat))] (.d (.v (.bool (fH b)))) 0:=by
 refine ay.aZ (n:=38) (ts:=[2]) Tryz.func130 (by kernel_rfl) rfl Tryz.ntmps130 Tryz.results130 rfl rfl fun C hC Z=>?_;refine W.seq (W.region (pE rfl (WO.nil (qs ?_))));iterate 2 refine W.seq ?_
 apply aG;(case hb=>rfl);·repeat' first | refine bg rfl rfl rfl | refine aH rfl rfl ?_ | refine aE rfl rfl rfl rfl ?_ | refine iv rfl rfl rfl ?_ | refine pE rfl ?_ | refine WO.nil ?_ | (apply aP;(case hj=>rfl);(case hl=>rfl))
 refine qs (ab rfl (fun M=>?_) (fun M=>?_));·
  have N:fH b=true:=by revert M;simp only[fH,lower];grind
  refine W.seq (W.region (pE rfl (WO.nil (qs (W.ret (an (QF.aw trivial rfl ?_)))))));rw[N];rfl
 have N:fH b=marks.any fun c=>decide (c=b):=by revert M;simp only[fH,lower];grind
 refine W.skip (qs (W.seq (W.region (pE rfl (WO.nil (qs ?_))))));iterate 2 refine W.seq ?_
 refine W.region (pE rfl (WO.nil (qs (W.block ?_))));have hlen:(ak kS).length≤maxLen:=by decide
 refine W.bh (ι:={x:Nat // match x with | k=>k≤(ak kS).length∧((ak kS).drop k).any (fun c=>decide (c=b))=marks.any (fun c=>decide (c=b))})
  (fun x=>match x.1 with | k=>[(4,.d (.v (.int .i64 ((k:Nat):Int))))]) [(0,_),(3,_)]
  (fun x=>match x.1 with | k=>[]) [] [] 0 (fun x=>match x.1 with | k=>(ak kS).length - k)
  [] ⟨0,?_⟩ rfl ?_ ⟨rfl,rfl,rfl,rfl,trivial⟩ ?_ trivial rfl ?_
 ·exact⟨Nat.zero_le _,rfl⟩
 ·repeat' first | exact trivial | refine⟨rfl,?_⟩
 ·repeat' exact trivial
 rintro⟨k,U,J⟩;show W _ _ _ _ _ ⟨[(4,.d (.v (.int .i64 ((k:Nat):Int)))),(0,_),(3,_)],[],[],0⟩;iterate 2 refine W.seq ?_
 refine W.region ?_;iterate 4 refine pE rfl ?_
 refine WO.nil (qs (bu (l:=ak kS) (k:=k) rfl (by rfl) U (fun c X hd O=>?_) (fun he hd=>?_)));·
  rw[hd,List.any_cons] at J;refine W.skip (qs (W.seq (W.block (W.seq (W.region ?_)))));iterate 2 refine pE rfl ?_
  refine pu (db (s:=kS) aa rfl rfl rfl rfl (Int.natCast_nonneg _) (eZ X)) rfl ?_;iterate 2 refine pE rfl ?_
  refine WO.nil (qs (ab rfl (fun I=>?_) (fun I=>?_)));·
   have I:decide (c=b)=true:=by simp at I ⊢;exact UInt8.toNat_inj.1 (by omega)
   rw[I,Bool.true_or] at J;refine W.seq (W.region (pE rfl (WO.nil (qs (W.ret (aC (an (cn (aC (an (QF.aw trivial rfl ?_)))))))))));rw[N,←J];rfl
  have I:decide (c=b)=false:=by simp at I ⊢;rintro rfl;exact I rfl
  rw[I,Bool.false_or] at J;refine W.skip (be (qs (W.region ?_)));iterate 3 refine pE rfl ?_
  refine WO.nil (W.bt [] ⟨k+1,?_⟩ ?_ rfl ?_ ⟨rfl,rfl,rfl,rfl,trivial⟩ ?_ trivial rfl);·exact⟨O,J⟩
  ·dsimp only;omega
  ·repeat' first | exact trivial | refine⟨aL (by assumption) (by assumption),?_⟩
  repeat' exact trivial
 rw[hd,List.any_nil] at J;refine W.exit (aW (aT (aS (qs (W.seq (W.region (pE rfl (WO.nil (qs (W.ret (QF.aw trivial rfl ?_)))))))))));rw[N,←J];rfl
theorem Av (s:ByteArray):s.size < 1↔s=B #[]:=by
 constructor;·
  intro h;obtain⟨l⟩:=s;have:l=#[]:=Array.eq_empty_of_size_eq_zero (by have:l.size < 1:=h;omega);rw[this]
 rintro rfl;decide
theorem vR (s:ByteArray):ay Tryz.prog 80 [.d (.v (.string s))] (.d (.v (.int .i64 (bE s)))) 0:=by
 refine ay.aZ (n:=23) (ts:=[2]) Tryz.func80 (by kernel_rfl) rfl Tryz.ntmps80 Tryz.results80 rfl rfl fun C hC Z=>?_;refine W.seq (W.region (pE rfl (WO.nil (qs ?_))));iterate 2 refine W.seq ?_
 apply aG;(case hb=>rfl);·repeat' first | refine bg rfl rfl rfl | refine aH rfl rfl ?_ | refine aE rfl rfl rfl rfl ?_ | refine pE rfl ?_ | refine WO.nil ?_ | (apply aP;(case hj=>rfl);(case hl=>rfl))
 refine qs (ab rfl (fun I=>?_) (fun I=>?_));·
  have I:s=B #[]∨40 < s.size:=by
   rw[←Av];by_cases q:s.size < 1;·exact .inl q
   have O:¬ ((s.size:Int) < 1):=by omega
   simp[O] at I;exact .inr (by omega)
  have U:bE s=3:=by unfold bE;rw[if_pos (by grind)]
  refine W.seq (W.region (pE rfl (WO.nil (qs (W.ret (an (QF.aw trivial rfl ?_)))))));rw[U];rfl
 have I:¬ (s=B #[]∨40 < s.size):=by
  rw[←Av];by_cases q:(s.size:Int) < 1;·simp[q] at I
  simp[q] at I;omega
 refine W.skip (qs ?_);iterate 2 refine W.seq ?_
 refine W.region (pE rfl (WO.nil (qs (W.block (W.jC (t:=0) rfl (fun hok=>?_))))));have hlen:=iR hok
 refine W.bh (ι:={x:Nat // match x with | k=>k≤(ak s).length∧((ak s).drop k).all fH=(ak s).all fH})
  (fun x=>match x.1 with | k=>[(3,.d (.v (.int .i64 ((k:Nat):Int))))]) [(0,_)]
  (fun x=>match x.1 with | k=>[]) [] [] 0 (fun x=>match x.1 with | k=>(ak s).length - k)
  [] ⟨0,?_⟩ rfl ?_ ⟨rfl,rfl,trivial⟩ ?_ trivial rfl ?_
 ·exact⟨Nat.zero_le _,rfl⟩
 ·repeat' first | exact trivial | refine⟨rfl,?_⟩
 ·repeat' exact trivial
 rintro⟨k,X,J⟩;show W _ _ _ _ _ ⟨[(3,.d (.v (.int .i64 ((k:Nat):Int)))),(0,_)],[],[],0⟩;iterate 2 refine W.seq ?_
 refine W.region ?_;iterate 4 refine pE rfl ?_
 refine WO.nil (qs (bu (l:=ak s) (k:=k) rfl (by simp[Ex.aF,au]) X (fun b hx hd M=>?_) (fun he hd=>?_)));·
  rw[hd,List.all_cons] at J;refine W.skip (qs (W.seq (W.block (W.seq (W.region ?_)))));iterate 2 refine pE rfl ?_
  refine pu (db aa rfl rfl rfl rfl (Int.natCast_nonneg _) (eZ (by assumption))) rfl ?_;refine pu (ao rfl rfl rfl (xR ..) rfl) rfl ?_;refine pE rfl (WO.nil (qs (ab rfl (fun N=>?_) (fun N=>?_))));·
   refine W.seq (W.region (pE rfl (WO.nil (qs (W.ret (aC (an (cn (aC (an (QF.aw trivial rfl ?_)))))))))));simp only[norm,aI];unfold bE;grind
  refine W.skip (be (qs (W.region ?_)));iterate 3 refine pE rfl ?_
  refine WO.nil (W.bt [] ⟨k+1,?_⟩ ?_ rfl ?_ ⟨rfl,rfl,trivial⟩ ?_ trivial rfl);·exact⟨M,by rw[←J];simp_all⟩
  ·dsimp only;omega
  ·repeat' first | exact trivial | refine⟨aL (by assumption) (by assumption),?_⟩
  repeat' exact trivial
 rw[hd] at J;refine W.exit (aW (aT (aS (qs (W.seq (W.region (pE rfl (WO.nil (qs (W.ret (QF.aw trivial rfl ?_)))))))))));simp only[norm,aI];unfold bE;grind
theorem w4 (s:ByteArray):bE s=0∨bE s=3:=by unfold bE;split <;> simp
theorem zN (l:List ByteArray):ay Tryz.prog 150 [.d (.sl (sV l))] (.d (.v (.int .i64 (cY l)))) 0:=by
 refine ay.aZ (n:=21) (ts:=[2]) Tryz.func150 (by kernel_rfl) rfl Tryz.ntmps150 Tryz.results150 rfl rfl fun C hC hG=>?_;refine W.seq (W.region (pE rfl (WO.nil (qs ?_))));iterate 2 refine W.seq ?_
 refine W.region ?_;iterate 3 refine pE rfl ?_
 refine WO.nil (qs (ab rfl (fun O=>?_) (fun O=>?_)));·
  have J:cY l=7:=by unfold cY;rw[if_pos (by simp at O;omega)]
  refine W.seq (W.region (pE rfl (WO.nil (qs (W.ret (an (QF.aw trivial rfl ?_)))))));rw[J];rfl
 have J:cY l=if l.any (fun s=>decide (bE s≠0)) then 3 else 0:=by unfold cY;rw[if_neg (by simp at O;omega)]
 refine W.skip (qs ?_);iterate 2 refine W.seq ?_
 refine W.region ?_;iterate 3 refine pE rfl ?_
 refine WO.nil (qs (W.block (W.len (t:=0) rfl rfl (fun hlen=>?_))));try simp only[List.length_map,Ex.aF] at hlen
 refine W.bh (ι:={x:Nat // match x with | k=>k≤l.length∧(l.drop k).any (fun s=>decide (bE s≠0))=l.any (fun s=>decide (bE s≠0))})
  (fun x=>match x.1 with | k=>[(11,.d (.v (.int .i64 ((k:Nat):Int))))]) [(9,_),(10,_)]
  (fun x=>match x.1 with | k=>[]) [] [] 0 (fun x=>match x.1 with | k=>l.length - k)
  [] ⟨0,?_⟩ rfl ?_ ⟨rfl,rfl,rfl,rfl,trivial⟩ ?_ trivial rfl ?_
 ·exact⟨Nat.zero_le _,rfl⟩
 ·repeat' first | exact trivial | refine⟨rfl,?_⟩
 ·repeat' exact trivial
 rintro⟨k,X,I⟩;show W _ _ _ _ _ ⟨[(11,.d (.v (.int .i64 ((k:Nat):Int)))),(9,_),(10,_)],[],[],0⟩;refine W.seq (W.region (pE rfl (WO.nil (qs (W.seq (bu (l:=l) (k:=k) rfl (by simp[Ex.aF,au]) X (fun s Z hd U=>?_) (fun he hd=>?_)))))));·
  rw[hd,List.any_cons] at I;refine W.skip (qs (W.seq (W.block (W.seq (W.region (pu (indexAddr aa rfl rfl rfl rfl rfl rfl (Int.natCast_nonneg _) (aM Z) rfl) rfl ?_))))));refine pE rfl (pE rfl (WO.nil (qs (W.seq (W.region (pE rfl (pu (ao rfl rfl rfl (pb s) rfl) rfl ?_)))))));refine pE rfl (WO.nil (qs (W.seq (W.region ?_))));iterate 2 refine pE rfl ?_
  refine WO.nil (qs (ab rfl (fun N=>?_) (fun N=>?_)));·
   have M:bE s=3:=by rcases w4 s with q | q <;> simp_all
   rw[M] at I;refine W.seq (W.region ?_);iterate 2 refine pE rfl ?_
   refine WO.nil (qs (W.ret (aC (an (cn (aC (an (QF.aw trivial rfl ?_))))))));rw[J,←I];simp[norm,aI,M]
  have M:bE s=0:=by simpa using N
  rw[M] at I;refine W.skip (be (qs (W.region ?_)));iterate 2 refine pE rfl ?_
  refine WO.nil (W.bt [] ⟨k+1,?_⟩ ?_ rfl ?_ ⟨rfl,rfl,rfl,rfl,trivial⟩ ?_ trivial rfl);·exact⟨U,by simpa using I⟩
  ·dsimp only;omega
  ·repeat' first | exact trivial | refine⟨aL (by assumption) (by assumption),?_⟩
  repeat' exact trivial
 rw[hd,List.any_nil] at I;refine W.exit (aW (aT (aS (qs (W.seq (W.region (pE rfl (WO.nil (qs (W.ret (QF.aw trivial rfl ?_)))))))))));rw[J,←I];rfl
theorem rH (l:List ByteArray):ay Tryz.prog 105 [.d (.sl (sV l))] (.d (.v (.int .i64 (cY l)))) 0:=by
 refine ay.aZ (n:=19) (ts:=[2]) Tryz.func105 (by kernel_rfl) rfl Tryz.ntmps105 Tryz.results105 rfl rfl fun C hC hG=>?_;refine W.seq (W.region (pE rfl (WO.nil (qs ?_))));iterate 2 refine W.seq ?_
 refine W.region ?_;iterate 3 refine pE rfl ?_
 refine WO.nil (qs (ab rfl (fun N=>?_) (fun N=>?_)));·
  have J:cY l=7:=by unfold cY;rw[if_pos (by simp at N;omega)]
  refine W.seq (W.region (pE rfl (WO.nil (qs (W.ret (an (QF.aw trivial rfl ?_)))))));rw[J];rfl
 have J:cY l=if l.any (fun s=>decide (bE s≠0)) then 3 else 0:=by unfold cY;rw[if_neg (by simp at N;omega)]
 refine W.skip (qs ?_);iterate 2 refine W.seq ?_
 refine W.region (pE rfl (WO.nil (qs (W.block (W.len (t:=0) rfl rfl (fun hlen=>?_))))));try simp only[List.length_map,Ex.aF] at hlen
 refine W.bh (ι:={x:Nat // match x with | k=>k≤l.length∧(l.drop k).any (fun s=>decide (bE s≠0))=l.any (fun s=>decide (bE s≠0))})
  (fun x=>match x.1 with | k=>[(3,.d (.v (.int .i64 ((k:Nat):Int))))]) [(0,_)]
  (fun x=>match x.1 with | k=>[]) [] [] 0 (fun x=>match x.1 with | k=>l.length - k)
  [] ⟨0,?_⟩ rfl ?_ ⟨rfl,rfl,trivial⟩ ?_ trivial rfl ?_
 ·exact⟨Nat.zero_le _,rfl⟩
 ·repeat' first | exact trivial | refine⟨rfl,?_⟩
 ·repeat' exact trivial
 rintro⟨k,X,I⟩;show W _ _ _ _ _ ⟨[(3,.d (.v (.int .i64 ((k:Nat):Int)))),(0,_)],[],[],0⟩;iterate 2 refine W.seq ?_
 refine W.region ?_;iterate 4 refine pE rfl ?_
 refine WO.nil (qs (bu (l:=l) (k:=k) rfl (by simp[Ex.aF,au]) X (fun s Z hd U=>?_) (fun he hd=>?_)));·
  rw[hd,List.any_cons] at I;refine W.skip (qs (W.seq (W.block (W.seq (W.region ?_)))));iterate 2 refine pE rfl ?_
  refine pu (indexAddr aa rfl rfl rfl rfl rfl rfl (Int.natCast_nonneg _) (aM Z) rfl) rfl ?_;refine pE rfl (pu (ao rfl rfl rfl (vR s) rfl) rfl ?_);refine pE rfl (WO.nil (qs (ab rfl (fun M=>?_) (fun M=>?_))));·
   have O:bE s=3:=by rcases w4 s with q | q <;> simp_all
   rw[O] at I;refine W.seq (W.region (pE rfl (WO.nil (qs (W.ret (aC (an (cn (aC (an (QF.aw trivial rfl ?_)))))))))));rw[J,←I];rfl
  have O:bE s=0:=by simpa using M
  rw[O] at I;refine W.skip (be (qs (W.region ?_)));iterate 3 refine pE rfl ?_
  refine WO.nil (W.bt [] ⟨k+1,?_⟩ ?_ rfl ?_ ⟨rfl,rfl,trivial⟩ ?_ trivial rfl);·exact⟨U,by simpa using I⟩
  ·dsimp only;omega
  ·repeat' first | exact trivial | refine⟨aL (by assumption) (by assumption),?_⟩
  repeat' exact trivial
 rw[hd,List.any_nil] at I;refine W.exit (aW (aT (aS (qs (W.seq (W.region (pE rfl (WO.nil (qs (W.ret (QF.aw trivial rfl ?_)))))))))));rw[J,←I];rfl
theorem Bc:ay Tryz.prog 149 [] (.d (.sl (sx.map tA.c))) 0:=by refine ay.aZ (n:=15) (ts:=[0]) Tryz.func149 (by kernel_rfl) rfl Tryz.ntmps149 Tryz.results149 rfl rfl fun C hC I=>?_;refine W.seq (W.region (pE rfl (WO.nil (qs (W.seq (W.region (pu (build aa rfl rfl rfl rfl) rfl ?_)))))));refine pu (build aa rfl rfl rfl rfl) rfl ?_;refine pu (build aa rfl rfl rfl rfl) rfl ?_;refine pu (build aa rfl rfl rfl rfl) rfl ?_;refine pu (build aa rfl rfl rfl rfl) rfl ?_;refine pu (build aa rfl rfl rfl rfl) rfl ?_;refine pu (build aa rfl rfl rfl rfl) rfl ?_;refine pu (build aa rfl rfl rfl rfl) rfl ?_;refine pu (build aa rfl rfl rfl rfl) rfl ?_;refine pu (build aa rfl rfl rfl rfl) rfl ?_;refine pu (build aa rfl rfl rfl rfl) rfl ?_;refine pu (build aa rfl rfl rfl rfl) rfl ?_;refine pu (build aa rfl rfl rfl rfl) rfl ?_;refine pu (ba aa rfl rfl rfl rfl rfl rfl rfl rfl rfl) rfl ?_;refine pE rfl (WO.nil (qs (W.ret (QF.aw trivial rfl ?_))));rfl
theorem Fg {k:Int} (h1:1≤k) (h2:k < 13):sx[k.toNat]? = some (cN k):=by rcases kinds h1 h2 with h | h | h | h | h | h | h | h | h | h | h | h <;> subst h <;> rfl
theorem zH (k:Int):ay Tryz.prog 100 [.d (.v (.int .i64 k))] (.tup [.ag (cN k).c,.d (.v (.bool (jR k)))]) 0:=by
 refine ay.cX aa (n:=19) (rs:=[.cell 2 160,.tmp 3]) Tryz.func100 (by kernel_rfl) rfl Tryz.ntmps100 Tryz.results100 rfl fun C hC N=>?_;refine W.seq (W.region (aQ aa rfl rfl rfl (pE rfl (WO.nil (qs (W.seq (W.region (pu (ao rfl rfl rfl (Bc ..) rfl) rfl ?_))))))));refine pE rfl (WO.nil (qs ?_));iterate 2 refine W.seq ?_
 apply aG;(case hb=>rfl);·repeat' first | refine bg rfl rfl rfl | refine aH rfl rfl ?_ | refine aE rfl rfl rfl rfl ?_ | refine pE rfl ?_ | refine WO.nil ?_ | (apply aP;(case hj=>rfl);(case hl=>rfl))
 refine qs (ab rfl (fun I=>?_) (fun I=>?_));·
  have J:cN k=uF∧jR k=false:=by
   have:k < 1∨13≤k:=by simp at I;revert I;show _→_;intro h;simpa [sx] using h
   exact⟨by unfold cN;rw[if_pos this],by simp[jR];omega⟩
  refine W.seq (W.region (pu (build aa rfl rfl rfl rfl) rfl ?_));refine ar aa rfl rfl rfl rfl rfl rfl rfl rfl (pE rfl (WO.nil (qs (W.ret (an (QV.aw aa trivial rfl ?_))))));rw[J.1,J.2];rfl
 have M:1≤k∧k < 13:=by simp at I;simpa [sx] using I
 have J:jR k=true:=by simp[jR];omega
 refine W.skip (qs (W.seq (W.region ?_)));iterate 2 refine pE rfl ?_
 refine pu (indexAddr aa rfl rfl rfl rfl rfl rfl (by omega) (aM (Fg M.1 M.2)) rfl) rfl ?_;refine pE rfl (ar aa rfl rfl rfl rfl rfl rfl rfl rfl (pE rfl (WO.nil (qs (W.ret (QV.aw aa trivial rfl ?_))))));rw[J];rfl
theorem A9 (f:tA) (e:Ev):ay Tryz.prog 101 [.ag f.c,.ag e.c] (.d (.v (.int .i64 (ke f e)))) 0:=by
 refine ay.aZ (n:=13) (ts:=[4]) Tryz.func101 (by kernel_rfl) rfl Tryz.ntmps101 Tryz.results101 rfl rfl fun C hC J=>?_;refine W.seq (W.region (bK rfl rfl rfl (bK rfl rfl rfl (pE rfl (WO.nil (qs ?_))))));iterate 2 refine W.seq ?_
 refine W.region (pE rfl (pE rfl (WO.nil (qs (ab rfl (fun I=>?_) (fun I=>?_))))));·
  refine W.seq (W.region (pE rfl (pE rfl (pu (ao rfl rfl rfl (pb ..) rfl) rfl ?_))));refine pE rfl (WO.nil (qs (W.ret (an (QF.aw trivial rfl ?_)))));simp only[norm,aI];grind[ke]
 refine W.skip (qs (W.seq (W.region (pE rfl (pE rfl (pu (ao rfl rfl rfl (zN ..) rfl) rfl ?_))))));refine pE rfl (WO.nil (qs (W.ret (QF.aw trivial rfl ?_))));simp only[norm,aI];grind[ke]
theorem gA (n lo hi:Int):ay Tryz.prog 152 [.d (.v (.int .i64 n)),.d (.v (.int .i64 lo)),.d (.v (.int .i64 hi))] (.d (.v (.int .i64 (within n lo hi)))) 0:=by
 refine ay.aZ (n:=15) (ts:=[6]) Tryz.func152 (by kernel_rfl) rfl Tryz.ntmps152 Tryz.results152 rfl rfl fun C hC J=>?_;refine W.seq (W.region (pE rfl (WO.nil (qs ?_))));iterate 2 refine W.seq ?_
 apply aG;(case hb=>rfl);·repeat' first | refine bg rfl rfl rfl | refine aH rfl rfl ?_ | refine aE rfl rfl rfl rfl ?_ | refine pE rfl ?_ | refine WO.nil ?_ | (apply aP;(case hj=>rfl);(case hl=>rfl))
 refine qs (ab rfl (fun I=>?_) (fun I=>?_));·
  refine W.seq (W.region (pE rfl (WO.nil (qs (W.ret (an (QF.aw trivial rfl ?_)))))));simp only[norm,aI];grind[within]
 refine W.skip (qs (W.seq (W.region (pE rfl (WO.nil (qs (W.ret (QF.aw trivial rfl ?_))))))));simp only[norm,aI];grind[within]
theorem BP (k:Int):ay Tryz.prog 104 [.d (.v (.int .i64 k))] (.tup [.d (.v (.bool (kY k))),.d (.v (.bool (tS k))),.d (.v (.bool (uf k))),.d (.v (.bool (jd k)))]) 0:=by
 refine ay.aZ (n:=38) (ts:=[2,3,4,5]) Tryz.func104 (by kernel_rfl) rfl Tryz.ntmps104 Tryz.results104 rfl rfl fun C hC I=>?_;refine W.seq (W.region ?_);iterate 4 refine pE rfl ?_
 refine WO.nil (qs (W.seq ?_));apply aG;(case hb=>rfl);·repeat' first | refine bg rfl rfl rfl | refine aH rfl rfl ?_ | refine aE rfl rfl rfl rfl ?_ | refine pE rfl ?_ | refine WO.nil ?_ | (apply aP;(case hj=>rfl);(case hl=>rfl))
 refine qs (W.seq (W.region ?_));iterate 3 refine pE rfl ?_
 refine WO.nil (qs (W.seq ?_));apply aG;(case hb=>rfl);·repeat' first | refine bg rfl rfl rfl | refine aH rfl rfl ?_ | refine aE rfl rfl rfl rfl ?_ | refine pE rfl ?_ | refine WO.nil ?_ | (apply aP;(case hj=>rfl);(case hl=>rfl))
 refine qs (W.seq ?_);apply aG;(case hb=>rfl);·repeat' first | refine bg rfl rfl rfl | refine aH rfl rfl ?_ | refine aE rfl rfl rfl rfl ?_ | refine pE rfl ?_ | refine WO.nil ?_ | (apply aP;(case hj=>rfl);(case hl=>rfl))
 refine qs (W.seq (W.region ?_));iterate 8 refine pE rfl ?_
 refine WO.nil (qs (W.ret (QF.aw trivial rfl ?_)));simp only[norm,iJ,aI];simp only[kY,tS,uf,jd];grind
theorem jW (e:Ev):ay Tryz.prog 106 [.ag e.c] (.d (.v (.int .i64 (gR e)))) 0:=by
 refine ay.aZ (n:=63) (ts:=[2]) Tryz.func106 (by kernel_rfl) rfl Tryz.ntmps106 Tryz.results106 rfl rfl fun C hC hG=>?_;refine W.seq (W.region (bK rfl rfl rfl (pE rfl (WO.nil (qs ?_)))));iterate 2 refine W.seq ?_
 refine W.region (pE rfl (pE rfl (WO.nil (qs (W.block ?_)))));iterate 2 refine W.seq ?_
 refine W.region ?_;iterate 2 refine pE rfl ?_
 refine WO.nil (qs (ab rfl (fun I=>?_) (fun I=>?_)));·
  refine W.skip (qs (W.fX rfl (W.seq (W.region (pE rfl (WO.nil (qs (W.ret (aC (an (QF.aw trivial rfl ?_)))))))))));simp only[norm,aI];grind[gR]
 refine W.seq (W.region ?_);iterate 2 refine pE rfl ?_
 refine WO.nil (qs (ab rfl (fun I=>?_) (fun I=>?_)));·
  refine W.skip (qs (W.fX rfl (W.seq (W.region (pE rfl (WO.nil (qs (W.ret (aC (an (QF.aw trivial rfl ?_)))))))))));simp only[norm,aI];grind[gR]
 refine W.region ?_;iterate 2 refine pE rfl ?_
 refine WO.nil (qs (ab rfl (fun I=>?_) (fun I=>?_)));·
  refine W.seq (W.region (pE rfl (WO.nil (qs (W.ret (aC (an (QF.aw trivial rfl ?_))))))));simp only[norm,aI];grind[gR]
 refine W.seq (W.region ?_);iterate 2 refine pE rfl ?_
 refine WO.nil (qs (ab rfl (fun J=>?_) (fun J=>?_)));·
  refine W.seq (W.region (pE rfl (pE rfl (pu (ao rfl rfl rfl (gA ..) rfl) rfl ?_))));refine pE rfl (WO.nil (qs (W.ret (aC (an (QF.aw trivial rfl ?_))))));simp only[norm,aI];grind[gR]
 refine W.seq (W.region ?_);iterate 2 refine pE rfl ?_
 refine WO.nil (qs (ab rfl (fun M=>?_) (fun M=>?_)));·
  refine W.seq (W.region (pE rfl (pE rfl (pu (ao rfl rfl rfl (gA ..) rfl) rfl ?_))));refine pE rfl (WO.nil (qs (W.ret (aC (an (QF.aw trivial rfl ?_))))));simp only[norm,aI];grind[gR]
 refine W.seq (W.region ?_);iterate 2 refine pE rfl ?_
 refine WO.nil (qs (ab rfl (fun N=>?_) (fun N=>?_)));·
  refine W.seq (W.region (pE rfl (pE rfl (pu (ao rfl rfl rfl (gA ..) rfl) rfl ?_))));refine pE rfl (WO.nil (qs (W.ret (aC (an (QF.aw trivial rfl ?_))))));simp only[norm,aI];grind[gR]
 refine W.seq (W.region ?_);iterate 2 refine pE rfl ?_
 refine WO.nil (qs (ab rfl (fun O=>?_) (fun O=>?_)));·
  refine W.seq (W.region (pE rfl (pE rfl (pu (ao rfl rfl rfl (gA ..) rfl) rfl ?_))));refine pE rfl (WO.nil (qs ?_));iterate 2 refine W.seq ?_
  apply aG;(case hb=>rfl);·repeat' first | refine bg rfl rfl rfl | refine aH rfl rfl ?_ | refine aE rfl rfl rfl rfl ?_ | refine pE rfl ?_ | refine WO.nil ?_ | (apply aP;(case hj=>rfl);(case hl=>rfl))
  refine qs (ab rfl (fun U=>?_) (fun U=>?_));·
   refine W.seq (W.region (pE rfl (pE rfl (pu (ao rfl rfl rfl (gA ..) rfl) rfl ?_))));refine pE rfl (WO.nil (qs (W.ret (an (aC (an (QF.aw trivial rfl ?_)))))));simp only[norm,aI];grind[gR]
  refine W.skip (qs ?_);iterate 2 refine W.seq ?_
  apply aG;(case hb=>rfl);·repeat' first | refine bg rfl rfl rfl | refine aH rfl rfl ?_ | refine aE rfl rfl rfl rfl ?_ | refine pE rfl ?_ | refine WO.nil ?_ | (apply aP;(case hj=>rfl);(case hl=>rfl))
  refine qs (ab rfl (fun X=>?_) (fun X=>?_));·
   refine W.seq (W.region (pE rfl (WO.nil (qs (W.ret (an (aC (an (QF.aw trivial rfl ?_)))))))));simp only[norm,aI];grind[gR]
  refine W.skip (qs (W.seq (W.region ?_)));iterate 2 refine pE rfl ?_
  refine WO.nil (qs (W.ret (aC (an (QF.aw trivial rfl ?_)))));simp only[norm,aI];grind[gR]
 refine W.skip (be (qs (W.seq (W.region (pE rfl (pE rfl (pu (ao rfl rfl rfl (gA ..) rfl) rfl ?_)))))));refine pE rfl (WO.nil (qs ?_));iterate 2 refine W.seq ?_
 apply aG;(case hb=>rfl);·repeat' first | refine bg rfl rfl rfl | refine aH rfl rfl ?_ | refine aE rfl rfl rfl rfl ?_ | refine pE rfl ?_ | refine WO.nil ?_ | (apply aP;(case hj=>rfl);(case hl=>rfl))
 refine qs (ab rfl (fun Z=>?_) (fun Z=>?_));·
  refine W.seq (W.region (pE rfl (pE rfl (pu (ao rfl rfl rfl (gA ..) rfl) rfl ?_))));refine pE rfl (WO.nil (qs (W.ret (an (QF.aw trivial rfl ?_)))));simp only[norm,aI];grind[gR]
 refine W.skip (qs (W.seq (W.region ?_)));iterate 2 refine pE rfl ?_
 refine WO.nil (qs (W.ret (QF.aw trivial rfl ?_)));simp only[norm,aI];grind[gR]
end Go.Proofs.YtpiaiiopakafhaaGreatDoor
namespace Go.Proofs.YtpiaiiopakafhaaGreatDoor
open Go.Ab Go.Tb
set_option maxRecDepth 10000
set_option maxHeartbeats 1000000
attribute [local irreducible] W WO Pu QS QB QL QF QV bA CH QE
theorem Cr (a b:List ByteArray):ay Tryz.prog 66 [.d (.sl (sV a)),.d (.sl (sV b))] (.d (.v (.bool (decide (a=b))))) 0:=by
 refine ay.aZ (n:=26) (ts:=[4]) Tryz.func66 (by kernel_rfl) rfl Tryz.ntmps66 Tryz.results66 rfl rfl fun C hC hG=>?_;refine W.seq (W.region (pE rfl (WO.nil (qs ?_))));iterate 2 refine W.seq ?_
 refine W.region ?_;iterate 5 refine pE rfl ?_
 refine WO.nil (qs (ab rfl (fun I=>?_) (fun I=>?_)));·
  have O:decide (a=b)=false:=by simp at I ⊢;rintro rfl;simp at I
  refine W.seq (W.region (pE rfl (WO.nil (qs (W.ret (an (QF.aw trivial rfl ?_)))))));rw[O];rfl
 have hl:a.length=b.length:=by simp at I;omega
 refine W.skip (qs ?_);iterate 2 refine W.seq ?_
 refine W.region (pE rfl (WO.nil (qs (W.block (W.len (t:=0) rfl rfl (fun hlen=>?_))))));try simp only[List.length_map,Ex.aF] at hlen
 refine W.bh (ι:={x:Nat // match x with | k=>k≤a.length∧decide (a.drop k=b.drop k)=decide (a=b)})
  (fun x=>match x.1 with | k=>[(5,.d (.v (.int .i64 ((k:Nat):Int))))]) [(0,_),(1,_)]
  (fun x=>match x.1 with | k=>[]) [] [] 0 (fun x=>match x.1 with | k=>a.length - k)
  [] ⟨0,?_⟩ rfl ?_ ⟨rfl,rfl,rfl,rfl,trivial⟩ ?_ trivial rfl ?_
 ·exact⟨Nat.zero_le _,rfl⟩
 ·repeat' first | exact trivial | refine⟨rfl,?_⟩
 ·repeat' exact trivial
 rintro⟨k,Z,J⟩;show W _ _ _ _ _ ⟨[(5,.d (.v (.int .i64 ((k:Nat):Int)))),(0,_),(1,_)],[],[],0⟩;iterate 2 refine W.seq ?_
 refine W.region ?_;iterate 4 refine pE rfl ?_
 refine WO.nil (qs (bu (l:=a) (k:=k) rfl (by simp[Ex.aF,au]) Z (fun x hx hd U=>?_) (fun he hd=>?_)));·
  obtain⟨y,hy,X⟩:=yT (l:=b) (k:=k) (by omega);rw[hd,X] at J;refine W.skip (qs (W.seq (W.block (W.seq (W.ey aa (by kernel_rfl) ?_)))));iterate 2 refine aJ (ev aa rfl) rfl ?_
  refine aJ (indexAddr aa rfl rfl rfl rfl rfl rfl (Int.natCast_nonneg _) (aM hx) rfl) rfl ?_;refine aJ (ev aa rfl) rfl ?_;iterate 2 refine aJ (ev aa rfl) rfl ?_
  refine aJ (indexAddr aa rfl rfl rfl rfl rfl rfl (Int.natCast_nonneg _) (aM hy) rfl) rfl ?_;refine aJ (ev aa rfl) rfl ?_;refine aJ (ev aa rfl) rfl ?_;refine CH.nil ?_;refine qs (ab rfl (fun M=>?_) (fun M=>?_));·
   have N:x≠y:=by rintro rfl;simp at M
   have O:decide (a=b)=false:=by rw[←J];simp[N]
   refine W.seq (W.region (pE rfl (WO.nil (qs (W.ret (aC (an (cn (aC (an (QF.aw trivial rfl ?_)))))))))));rw[O];rfl
  have N:x=y:=by simpa using M
  refine W.skip (be (qs (W.region ?_)));iterate 3 refine pE rfl ?_
  refine WO.nil (W.bt [] ⟨k+1,?_⟩ ?_ rfl ?_ ⟨rfl,rfl,rfl,rfl,trivial⟩ ?_ trivial rfl);·
   refine⟨U,?_⟩;rw[←J,N];simp
  ·dsimp only;omega
  ·repeat' first | exact trivial | refine⟨aL (by assumption) (by assumption),?_⟩
  repeat' exact trivial
 rw[hd,dropEnd (l:=b) (by omega)] at J;refine W.exit (aW (aT (aS (qs (W.seq (W.region (pE rfl (WO.nil (qs (W.ret (QF.aw trivial rfl ?_)))))))))));rw[←J];rfl
theorem BN (a b:List ByteArray):ay Tryz.prog 141 [.d (.sl (sV a)),.d (.sl (sV b))] (.d (.v (.bool (decide (a=b))))) 0:=by
 refine ay.aZ (n:=26) (ts:=[4]) Tryz.func141 (by kernel_rfl) rfl Tryz.ntmps141 Tryz.results141 rfl rfl fun C hC hG=>?_;refine W.seq (W.region (pE rfl (WO.nil (qs ?_))));iterate 2 refine W.seq ?_
 refine W.region ?_;iterate 5 refine pE rfl ?_
 refine WO.nil (qs (ab rfl (fun I=>?_) (fun I=>?_)));·
  have O:decide (a=b)=false:=by simp at I ⊢;rintro rfl;simp at I
  refine W.seq (W.region (pE rfl (WO.nil (qs (W.ret (an (QF.aw trivial rfl ?_)))))));rw[O];rfl
 have hl:a.length=b.length:=by simp at I;omega
 refine W.skip (qs ?_);iterate 2 refine W.seq ?_
 refine W.region ?_;iterate 3 refine pE rfl ?_
 refine WO.nil (qs (W.block (W.len (t:=0) rfl rfl (fun hlen=>?_))));try simp only[List.length_map,Ex.aF] at hlen
 refine W.bh (ι:={x:Nat // match x with | k=>k≤a.length∧decide (a.drop k=b.drop k)=decide (a=b)})
  (fun x=>match x.1 with | k=>[(13,.d (.v (.int .i64 ((k:Nat):Int))))]) [(0,_),(1,_),(12,_)]
  (fun x=>match x.1 with | k=>[]) [] [] 0 (fun x=>match x.1 with | k=>a.length - k)
  [] ⟨0,?_⟩ rfl ?_ ⟨rfl,rfl,rfl,rfl,rfl,rfl,trivial⟩ ?_ trivial rfl ?_
 ·exact⟨Nat.zero_le _,rfl⟩
 ·repeat' first | exact trivial | refine⟨rfl,?_⟩
 ·repeat' exact trivial
 rintro⟨k,Z,J⟩;show W _ _ _ _ _ ⟨[(13,.d (.v (.int .i64 ((k:Nat):Int)))),(0,_),(1,_),(12,_)],[],[],0⟩;refine W.seq (W.region (pE rfl (WO.nil (qs (W.seq (bu (l:=a) (k:=k) rfl (by simp[Ex.aF,au]) Z (fun x hx hd U=>?_) (fun he hd=>?_)))))));·
  obtain⟨y,hy,X⟩:=yT (l:=b) (k:=k) (by omega);rw[hd,X] at J;refine W.skip (qs (W.seq (W.block (W.seq (W.region ?_)))));iterate 2 refine pE rfl ?_
  refine WO.nil (qs (W.seq (W.ey aa (by kernel_rfl) ?_)));iterate 2 refine aJ (ev aa rfl) rfl ?_
  refine aJ (indexAddr aa rfl rfl rfl rfl rfl rfl (Int.natCast_nonneg _) (aM hx) rfl) rfl ?_;refine aJ (ev aa rfl) rfl ?_;iterate 2 refine aJ (ev aa rfl) rfl ?_
  refine aJ (indexAddr aa rfl rfl rfl rfl rfl rfl (Int.natCast_nonneg _) (aM hy) rfl) rfl ?_;refine aJ (ev aa rfl) rfl ?_;refine aJ (ev aa rfl) rfl ?_;refine CH.nil ?_;refine qs (ab rfl (fun M=>?_) (fun M=>?_));·
   have N:x≠y:=by rintro rfl;simp at M
   have O:decide (a=b)=false:=by rw[←J];simp[N]
   refine W.seq (W.region (pE rfl (WO.nil (qs (W.ret (aC (an (cn (aC (an (QF.aw trivial rfl ?_)))))))))));rw[O];rfl
  have N:x=y:=by simpa using M
  refine W.skip (be (qs (W.region ?_)));iterate 2 refine pE rfl ?_
  refine WO.nil (W.bt [] ⟨k+1,?_⟩ ?_ rfl ?_ ⟨rfl,rfl,rfl,rfl,rfl,rfl,trivial⟩ ?_ trivial rfl);·
   refine⟨U,?_⟩;rw[←J,N];simp
  ·dsimp only;omega
  ·repeat' first | exact trivial | refine⟨aL (by assumption) (by assumption),?_⟩
  repeat' exact trivial
 rw[hd,dropEnd (l:=b) (by omega)] at J;refine W.exit (aW (aT (aS (qs (W.seq (W.region (pE rfl (WO.nil (qs (W.ret (QF.aw trivial rfl ?_)))))))))));rw[←J];rfl
def mG (a b:Ev):Bool:=decide (a.time=b.time) && decide (a.kind=b.kind) && decide (a.name=b.name) && decide (a.n=b.n) && decide (a.m=b.m) && decide (a.stack=b.stack)
theorem yz (a b:Ev):mG a b=true↔a=b:=by
 cases a;cases b;simp only[mG,Bool.and_eq_true,decide_eq_true_eq,Ev.mk.injEq];constructor;·rintro⟨⟨⟨⟨⟨h1,h2⟩,h3⟩,h4⟩,h5⟩,I⟩;exact⟨h1,h2,h3,h4,h5,I⟩
 rintro⟨h1,h2,h3,h4,h5,I⟩;exact⟨⟨⟨⟨⟨h1,h2⟩,h3⟩,h4⟩,h5⟩,I⟩
theorem DP (a b:Ev):ay Tryz.prog 94 [.ag a.c,.ag b.c] (.d (.v (.bool (mG a b)))) 0:=by
 refine ay.aZ (n:=45) (ts:=[4]) Tryz.func94 (by kernel_rfl) rfl Tryz.ntmps94 Tryz.results94 rfl rfl fun C hC I=>?_;refine W.seq (W.region (bK rfl rfl rfl (bK rfl rfl rfl (pE rfl (WO.nil (qs (W.seq ?_)))))));apply aG;(case hb=>rfl);·repeat' first | refine bg rfl rfl rfl | refine aH rfl rfl ?_ | refine aE rfl rfl rfl rfl ?_ | refine pE rfl ?_ | refine pu (ao rfl rfl rfl (BN ..) rfl) rfl ?_ | refine WO.nil ?_ | (apply aP;(case hj=>rfl);(case hl=>rfl))
 refine qs (W.ret (QF.aw trivial rfl ?_));simp only[norm,aI,mG];grind
theorem By (a b:Ev):ay Tryz.prog 21 [.ag a.c,.ag b.c] (.d (.v (.bool (mG a b)))) 0:=by
 refine ay.aZ (n:=45) (ts:=[4]) Tryz.func21 (by kernel_rfl) rfl Tryz.ntmps21 Tryz.results21 rfl rfl fun C hC I=>?_;refine W.seq (W.region (bK rfl rfl rfl (bK rfl rfl rfl (pE rfl (WO.nil (qs (W.seq ?_)))))));apply aG;(case hb=>rfl);·repeat' first | refine bg rfl rfl rfl | refine aH rfl rfl ?_ | refine aE rfl rfl rfl rfl ?_ | refine pE rfl ?_ | refine pu (ao rfl rfl rfl (Cr ..) rfl) rfl ?_ | refine WO.nil ?_ | (apply aP;(case hj=>rfl);(case hl=>rfl))
 refine qs (W.ret (QF.aw trivial rfl ?_));simp only[norm,aI,mG];grind
theorem tM (e:Ev):ay Tryz.prog 59 [.ag e.c] (.d (.v (.int .i64 (ct e)))) 0:=by
 refine ay.aZ (n:=127) (ts:=[2]) Tryz.func59 (by kernel_rfl) rfl Tryz.ntmps59 Tryz.results59 rfl rfl fun C hC X=>?_;refine W.seq (W.region (bK rfl rfl rfl (pE rfl (WO.nil (qs ?_)))));iterate 2 refine W.seq ?_
 apply aG;(case hb=>rfl);·repeat' first | refine bg rfl rfl rfl | refine aH rfl rfl ?_ | refine aE rfl rfl rfl rfl ?_ | refine pE rfl ?_ | refine WO.nil ?_ | (apply aP;(case hj=>rfl);(case hl=>rfl))
 refine qs (ab rfl (fun J=>?_) (fun J=>?_));·
  refine W.seq (W.region (pE rfl (WO.nil (qs (W.ret (an (QF.aw trivial rfl ?_)))))));simp only[norm,aI];grind[ct]
 refine W.skip (qs (W.seq (W.region (pE rfl (pE rfl (pu (ao rfl rfl rfl (zH ..) rfl) rfl ?_))))));iterate 3 refine pE rfl ?_
 refine aQ aa rfl rfl rfl (ar aa rfl rfl rfl rfl rfl rfl rfl rfl (pE rfl (WO.nil (qs ?_))));iterate 2 refine W.seq ?_
 apply aG;(case hb=>rfl);·repeat' first | refine bg rfl rfl rfl | refine aH rfl rfl ?_ | refine aE rfl rfl rfl rfl ?_ | refine iv rfl rfl rfl ?_ | refine pE rfl ?_ | refine WO.nil ?_ | (apply aP;(case hj=>rfl);(case hl=>rfl))
 refine qs (ab rfl (fun M=>?_) (fun M=>?_));·
  refine W.seq (W.region (pE rfl (WO.nil (qs (W.ret (an (QF.aw trivial rfl ?_)))))));simp only[norm,aI];grind[ct]
 refine W.skip (qs ?_);iterate 2 refine W.seq ?_
 refine W.region (pE rfl (pE rfl (pu (ao rfl rfl rfl (A9 ..) rfl) rfl ?_)));refine pE rfl (WO.nil (qs (W.seq (W.region ?_))));iterate 2 refine pE rfl ?_
 refine WO.nil (qs (ab rfl (fun N=>?_) (fun N=>?_)));·
  refine W.seq (W.region ?_);iterate 2 refine pE rfl ?_
  refine WO.nil (qs (W.ret (an (QF.aw trivial rfl ?_))));simp only[norm,aI];grind[ct]
 refine W.skip (qs (W.seq (W.block (W.seq ?_))));apply aG;(case hb=>rfl);·repeat' first | refine bg rfl rfl rfl | refine aH rfl rfl ?_ | refine aE rfl rfl rfl rfl ?_ | refine iv rfl rfl rfl ?_ | refine pE rfl ?_ | refine WO.nil ?_ | (apply aP;(case hj=>rfl);(case hl=>rfl))
 refine qs (ab rfl (fun O=>?_) (fun O=>?_));·
  refine W.seq (W.region (pE rfl (WO.nil (qs (W.ret (aC (an (QF.aw trivial rfl ?_))))))));simp only[norm,aI];grind[ct]
 refine W.seq ?_;apply aG;(case hb=>rfl);·repeat' first | refine bg rfl rfl rfl | refine aH rfl rfl ?_ | refine aE rfl rfl rfl rfl ?_ | refine pE rfl ?_ | refine WO.nil ?_ | (apply aP;(case hj=>rfl);(case hl=>rfl))
 refine qs (ab rfl (fun U=>?_) (fun U=>?_));·
  refine W.seq (W.region (pE rfl (WO.nil (qs (W.ret (aC (an (QF.aw trivial rfl ?_))))))));simp only[norm,aI];grind[ct]
 refine W.seq ?_;apply aG;(case hb=>rfl);·repeat' first | refine bg rfl rfl rfl | refine aH rfl rfl ?_ | refine aE rfl rfl rfl rfl ?_ | refine iv rfl rfl rfl ?_ | refine pE rfl ?_ | refine WO.nil ?_ | (apply aP;(case hj=>rfl);(case hl=>rfl))
 refine qs (ab rfl (fun I=>?_) (fun I=>?_));·
  refine W.seq (W.region (pE rfl (WO.nil (qs (W.ret (aC (an (QF.aw trivial rfl ?_))))))));simp only[norm,aI];grind[ct]
 refine W.skip (be (qs (W.seq (W.region (pE rfl (WO.nil (qs (W.ret (QF.aw trivial rfl ?_)))))))));simp only[norm,aI];grind[ct]
theorem zU (e:Ev):ay Tryz.prog 65 [.ag e.c] (.d (.v (.int .i64 (ct e)))) 0:=by
 rw[←zP];refine ay.aZ (n:=80) (ts:=[2]) Tryz.func65 (by kernel_rfl) rfl Tryz.ntmps65 Tryz.results65 rfl rfl fun C hC X=>?_;refine W.seq (W.region (bK rfl rfl rfl (pE rfl (WO.nil (qs ?_)))));iterate 2 refine W.seq ?_
 apply aG;(case hb=>rfl);·repeat' first | refine bg rfl rfl rfl | refine aH rfl rfl ?_ | refine aE rfl rfl rfl rfl ?_ | refine pE rfl ?_ | refine WO.nil ?_ | (apply aP;(case hj=>rfl);(case hl=>rfl))
 refine qs (ab rfl (fun M=>?_) (fun M=>?_));·
  refine W.seq (W.region (pE rfl (WO.nil (qs (W.ret (an (QF.aw trivial rfl ?_)))))));simp only[norm,aI];grind[fY]
 refine W.skip (qs ?_);iterate 2 refine W.seq ?_
 apply aG;(case hb=>rfl);·repeat' first | refine bg rfl rfl rfl | refine aH rfl rfl ?_ | refine aE rfl rfl rfl rfl ?_ | refine pE rfl ?_ | refine WO.nil ?_ | (apply aP;(case hj=>rfl);(case hl=>rfl))
 refine qs (ab rfl (fun N=>?_) (fun N=>?_));·
  refine W.seq (W.region (pE rfl (WO.nil (qs (W.ret (an (QF.aw trivial rfl ?_)))))));simp only[norm,aI];grind[fY]
 refine W.skip (qs (W.seq (W.region (pE rfl (pE rfl (pu (ao rfl rfl rfl (BP ..) rfl) rfl ?_))))));iterate 9 refine pE rfl ?_
 refine WO.nil (qs ?_);iterate 2 refine W.seq ?_
 apply aG;(case hb=>rfl);·repeat' first | refine bg rfl rfl rfl | refine aH rfl rfl ?_ | refine aE rfl rfl rfl rfl ?_ | refine iv rfl rfl rfl ?_ | refine pE rfl ?_ | refine WO.nil ?_ | (apply aP;(case hj=>rfl);(case hl=>rfl))
 refine qs (ab rfl (fun O=>?_) (fun O=>?_));·
  refine W.seq (W.region (pE rfl (WO.nil (qs (W.ret (an (QF.aw trivial rfl ?_)))))));simp only[norm,aI];grind[fY]
 refine W.skip (qs (W.seq (W.region (pE rfl (WO.nil (qs ?_))))));iterate 2 refine W.seq ?_
 refine W.region (pE rfl (WO.nil (qs (ab rfl (fun U=>?_) (fun U=>?_)))));·
  refine W.region (pE rfl (pE rfl (pu (ao rfl rfl rfl (vR ..) rfl) rfl ?_)));refine pE rfl (WO.nil (qs ?_));iterate 2 refine W.seq ?_
  refine W.region (pE rfl (WO.nil (qs (ab rfl (fun J=>?_) (fun J=>?_)))));·
   refine W.region (pE rfl (pE rfl (pu (ao rfl rfl rfl (rH ..) rfl) rfl ?_)));refine pE rfl (WO.nil (qs ?_));iterate 2 refine W.seq ?_
   refine W.region ?_;iterate 2 refine pE rfl ?_
   refine WO.nil (qs (ab rfl (fun I=>?_) (fun I=>?_)));·
    refine W.seq (W.region ?_);iterate 2 refine pE rfl ?_
    refine WO.nil (qs (W.ret (an (QF.aw trivial rfl ?_))));simp only[norm,aI];grind[fY]
   refine W.skip (qs (W.seq (W.region (pE rfl (pu (ao rfl rfl rfl (jW ..) rfl) rfl ?_)))));refine pE rfl (WO.nil (qs (W.ret (QF.aw trivial rfl ?_))));simp only[norm,aI];grind[fY]
  refine W.skip (qs ?_);iterate 2 refine W.seq ?_
  refine W.region ?_;iterate 2 refine pE rfl ?_
  refine WO.nil (qs (ab rfl (fun I=>?_) (fun I=>?_)));·
   refine W.seq (W.region ?_);iterate 2 refine pE rfl ?_
   refine WO.nil (qs (W.ret (an (QF.aw trivial rfl ?_))));simp only[norm,aI];grind[fY]
  refine W.skip (qs (W.seq (W.region (pE rfl (pu (ao rfl rfl rfl (jW ..) rfl) rfl ?_)))));refine pE rfl (WO.nil (qs (W.ret (QF.aw trivial rfl ?_))));simp only[norm,aI];grind[fY]
 refine W.skip (qs ?_);iterate 2 refine W.seq ?_
 refine W.region (pE rfl (WO.nil (qs (ab rfl (fun J=>?_) (fun J=>?_)))));·
  refine W.region (pE rfl (pE rfl (pu (ao rfl rfl rfl (rH ..) rfl) rfl ?_)));refine pE rfl (WO.nil (qs ?_));iterate 2 refine W.seq ?_
  refine W.region ?_;iterate 2 refine pE rfl ?_
  refine WO.nil (qs (ab rfl (fun I=>?_) (fun I=>?_)));·
   refine W.seq (W.region ?_);iterate 2 refine pE rfl ?_
   refine WO.nil (qs (W.ret (an (QF.aw trivial rfl ?_))));simp only[norm,aI];grind[fY]
  refine W.skip (qs (W.seq (W.region (pE rfl (pu (ao rfl rfl rfl (jW ..) rfl) rfl ?_)))));refine pE rfl (WO.nil (qs (W.ret (QF.aw trivial rfl ?_))));simp only[norm,aI];grind[fY]
 refine W.skip (qs ?_);iterate 2 refine W.seq ?_
 refine W.region ?_;iterate 2 refine pE rfl ?_
 refine WO.nil (qs (ab rfl (fun I=>?_) (fun I=>?_)));·
  refine W.seq (W.region ?_);iterate 2 refine pE rfl ?_
  refine WO.nil (qs (W.ret (an (QF.aw trivial rfl ?_))));simp only[norm,aI];grind[fY]
 refine W.skip (qs (W.seq (W.region (pE rfl (pu (ao rfl rfl rfl (jW ..) rfl) rfl ?_)))));refine pE rfl (WO.nil (qs (W.ret (QF.aw trivial rfl ?_))));simp only[norm,aI];grind[fY]
end Go.Proofs.YtpiaiiopakafhaaGreatDoor
namespace Go.Proofs.YtpiaiiopakafhaaGreatDoor
open Go.Ab Go.Tb
set_option maxRecDepth 10000
set_option maxHeartbeats 1000000
attribute [local irreducible] W WO Pu QS QB QL QF QV bA CH QE
theorem zF (s:ByteArray) (v:Int) (h:Lib.atoiAll s.data.toList=.ok v):fR s=(if (if dv v=s then true else false) && eg v then (v,true) else (0,false)):=by unfold fR;rw[h];by_cases h1:dv v=s <;> by_cases h2:eg v=true <;> simp[h1,h2]
theorem Aw (l:List UInt8):-9223372036854775808≤Lib.atoiSat l∧Lib.atoiSat l≤9223372036854775807:=by unfold Lib.atoiSat;split <;> decide
theorem wrap_u8 {x:Int} (h:0≤x∧x≤255):IntKind.u8.wrap x=x:=IntWalk.u8_in x h
theorem gn (s:ByteArray) (hs:s.size≤281474976710656):ay Tryz.prog 160 [.d (.v (.string s))] (.tup [.d (.v (.int .i64 (fR s).1)),.d (.v (.bool (fR s).2))]) 0:=by
 have I:=D6 s hs;unfold yD at I
 cases h:Lib.atoiAll s.data.toList with
 | ok v=>
  rw[h] at I;have hb:=Lib.atoiAll_bounds h;have hp:=zF s v h;refine ay.aZ (n:=23) (ts:=[2,3]) Tryz.func160 (by kernel_rfl) rfl Tryz.ntmps160 Tryz.results160 rfl rfl fun C hC J=>?_;refine W.seq (W.region ?_);iterate 2 refine pE rfl ?_
  refine WO.nil (qs (W.seq (W.region (pE rfl (pu (ao rfl rfl rfl I rfl) rfl ?_)))));iterate 5 refine pE rfl ?_
  refine WO.nil (qs (W.seq (W.region ?_)));iterate 2 refine pE rfl ?_
  refine pu (FP rfl (by kernel_rfl)) rfl ?_;refine pE rfl (ku rfl rfl (fun _=>?_) (fun _=>?_));·
   refine aH rfl rfl (pE rfl (aH rfl rfl (pu (ao rfl rfl rfl (mF v hb.1 hb.2) rfl) rfl ?_)));refine aH rfl rfl (pE rfl (aH rfl rfl ?_));iterate 2 refine pE rfl ?_
   refine pu (ao rfl rfl rfl (iY ..) rfl) rfl ?_;iterate 4 refine pE rfl ?_
   refine WO.nil (qs (W.ret (QF.aw trivial rfl ?_)))
   (rw[hp];simp only[norm,iJ,aI];by_cases h1:dv v=s <;> by_cases h2:eg v=true <;> simp[h1,h2])
  iterate 4 refine aE rfl rfl rfl rfl ?_
  refine pE rfl (pu (ao rfl rfl rfl (iY ..) rfl) rfl ?_);iterate 4 refine pE rfl ?_
  refine WO.nil (qs (W.ret (QF.aw trivial rfl ?_)));first | contradiction | (rw[hp];simp only[norm,iJ,aI];by_cases h1:dv v=s <;> by_cases h2:eg v=true <;> simp[h1,h2])
 | range=>
  rw[h] at I;have hp:fR s=(0,false):=by unfold fR;rw[h]
  refine ay.aZ (n:=23) (ts:=[2,3]) Tryz.func160 (by kernel_rfl) rfl Tryz.ntmps160 Tryz.results160 rfl rfl fun C hC J=>?_;refine W.seq (W.region ?_);iterate 2 refine pE rfl ?_
  refine WO.nil (qs (W.seq (W.region (pE rfl (pu (ao rfl rfl rfl I rfl) rfl ?_)))));iterate 5 refine pE rfl ?_
  refine WO.nil (qs (W.seq (W.region ?_)));iterate 2 refine pE rfl ?_
  refine pu (Ec rfl (by kernel_rfl)) rfl ?_;refine pE rfl (ku rfl rfl (fun _=>?_) (fun _=>?_));·
   refine aH rfl rfl (pE rfl (aH rfl rfl (pu (ao rfl rfl rfl (mF _ (Aw _).1 (Aw _).2) rfl) rfl ?_)));refine aH rfl rfl (pE rfl (aH rfl rfl ?_));iterate 2 refine pE rfl ?_
   refine pu (ao rfl rfl rfl (iY ..) rfl) rfl ?_;iterate 4 refine pE rfl ?_
   refine WO.nil (qs (W.ret (QF.aw trivial rfl ?_)));contradiction
  iterate 4 refine aE rfl rfl rfl rfl ?_
  refine pE rfl (pu (ao rfl rfl rfl (iY ..) rfl) rfl ?_);iterate 4 refine pE rfl ?_
  refine WO.nil (qs (W.ret (QF.aw trivial rfl ?_)));first | contradiction | (rw[hp];rfl)
 | _=>
  rw[h] at I;have hp:fR s=(0,false):=by unfold fR;rw[h]
  refine ay.aZ (n:=23) (ts:=[2,3]) Tryz.func160 (by kernel_rfl) rfl Tryz.ntmps160 Tryz.results160 rfl rfl fun C hC J=>?_;refine W.seq (W.region ?_);iterate 2 refine pE rfl ?_
  refine WO.nil (qs (W.seq (W.region (pE rfl (pu (ao rfl rfl rfl I rfl) rfl ?_)))));iterate 5 refine pE rfl ?_
  refine WO.nil (qs (W.seq (W.region ?_)));iterate 2 refine pE rfl ?_
  refine pu (Ec rfl (by kernel_rfl)) rfl ?_;refine pE rfl (ku rfl rfl (fun _=>?_) (fun _=>?_));·
   refine aH rfl rfl (pE rfl (aH rfl rfl (pu (ao rfl rfl rfl (mF 0 (by decide) (by decide)) rfl) rfl ?_)));refine aH rfl rfl (pE rfl (aH rfl rfl ?_));iterate 2 refine pE rfl ?_
   refine pu (ao rfl rfl rfl (iY ..) rfl) rfl ?_;iterate 4 refine pE rfl ?_
   refine WO.nil (qs (W.ret (QF.aw trivial rfl ?_)));contradiction
  iterate 4 refine aE rfl rfl rfl rfl ?_
  refine pE rfl (pu (ao rfl rfl rfl (iY ..) rfl) rfl ?_);iterate 4 refine pE rfl ?_
  refine WO.nil (qs (W.ret (QF.aw trivial rfl ?_)))
  (rw[hp];rfl)
end Go.Proofs.YtpiaiiopakafhaaGreatDoor
namespace Go.Proofs.YtpiaiiopakafhaaGreatDoor
open Go.Ab Go.Tb
set_option maxRecDepth 10000
set_option maxHeartbeats 1000000
attribute [local irreducible] W WO Pu QS QB QL QF QV bA CH QE
theorem Ax (a b:List cf):ay Tryz.prog 44 [.d (.sl (a.map cf.c)),.d (.sl (b.map cf.c))] (.d (.v (.bool (decide (a=b))))) 0:=by
 refine ay.aZ (n:=26) (ts:=[4]) Tryz.func44 (by kernel_rfl) rfl Tryz.ntmps44 Tryz.results44 rfl rfl fun C hC hG=>?_;refine W.seq (W.region (pE rfl (WO.nil (qs ?_))));iterate 2 refine W.seq ?_
 refine W.region ?_;iterate 5 refine pE rfl ?_
 refine WO.nil (qs (ab rfl (fun I=>?_) (fun I=>?_)));·
  have J:decide (a=b)=false:=decide_eq_false (by rintro rfl;simp at I);refine W.seq (W.region (pE rfl (WO.nil (qs (W.ret (an (QF.aw trivial rfl ?_)))))));rw[J];rfl
 have ad:a.length=b.length:=by simp at I;omega
 refine W.skip (qs ?_);iterate 2 refine W.seq ?_
 refine W.region ?_;iterate 3 refine pE rfl ?_
 refine WO.nil (qs (W.block (W.len (t:=0) rfl rfl (fun hlen=>?_))));try simp only[List.length_map,Ex.aF] at hlen
 refine W.bh (ι:={x:Nat // match x with | k=>k≤a.length∧(a.drop k=b.drop k↔a=b)})
  (fun x=>match x.1 with | k=>[(13,.d (.v (.int .i64 ((k:Nat):Int))))]) [(0,_),(1,_),(12,_)]
  (fun x=>match x.1 with | k=>[]) [] [] 0 (fun x=>match x.1 with | k=>a.length - k)
  [] ⟨0,?_⟩ rfl ?_ ⟨rfl,rfl,rfl,rfl,rfl,rfl,trivial⟩ ?_ trivial rfl ?_
 ·exact⟨Nat.zero_le _,by simp⟩
 ·repeat' first | exact trivial | refine⟨rfl,?_⟩
 ·repeat' exact trivial
 rintro⟨k,hk,M⟩;show W _ _ _ _ _ ⟨[(13,.d (.v (.int .i64 ((k:Nat):Int)))),(0,_),(1,_),(12,_)],[],[],0⟩;refine W.seq (W.region (pE rfl (WO.nil (qs (W.seq (bu (l:=a) (k:=k) rfl (by simp[Ex.aF,au]) hk (fun x hx hd Z=>?_) (fun he hd=>?_)))))));·
  obtain⟨y,hy⟩:∃ y,b[k]? = some y:=⟨b[k]'(by omega),by simp⟩;have N:b.drop k=y::b.drop (k+1):=by
   have X:k < b.length:=by omega
   have:=List.drop_eq_getElem_cons X;rw[this,(List.getElem?_eq_some_iff.1 hy).2]
  rw[hd,N] at M;refine W.skip (qs (W.seq (W.block (W.seq (W.region ?_)))));iterate 2 refine pE rfl ?_
  refine WO.nil (qs (W.seq (W.ey aa (by kernel_rfl) ?_)));iterate 2 refine aJ (ev aa rfl) rfl ?_
  refine aJ (indexAddr (l:=x.c) aa rfl rfl rfl rfl rfl rfl (Int.natCast_nonneg _) (aM hx) rfl) rfl ?_;refine aJ (ev aa rfl) rfl ?_;iterate 2 refine aJ (ev aa rfl) rfl ?_
  refine aJ (indexAddr (l:=y.c) aa rfl rfl rfl rfl rfl rfl (Int.natCast_nonneg _) (aM hy) rfl) rfl ?_;refine aJ (ev aa rfl) rfl ?_;refine aJ (ev aa rfl) rfl ?_;refine CH.nil ?_;refine qs (ab rfl (fun O=>?_) (fun O=>?_));·
   have U:x≠y:=by rintro rfl;simp at O
   have J:decide (a=b)=false:=decide_eq_false (fun q=>by have:=M.2 q;simp at this;exact U this.1);refine W.seq (W.region (pE rfl (WO.nil (qs (W.ret (aC (an (cn (aC (an (QF.aw trivial rfl ?_)))))))))));rw[J];rfl
  have U:x=y:=by
   have q:x.id=y.id∧x.name=y.name:=by simpa using O
   cases x;cases y;simp_all
  have hn:a.drop (k+1)=b.drop (k+1)↔a=b:=by rw[←M,U];simp
  refine W.skip (be (qs (W.region ?_)));iterate 2 refine pE rfl ?_
  refine WO.nil (W.bt [] ⟨k+1,?_⟩ ?_ rfl ?_ ⟨rfl,rfl,rfl,rfl,rfl,rfl,trivial⟩ ?_ trivial rfl);·exact⟨Z,hn⟩
  ·dsimp only;omega
  ·repeat' first | exact trivial | refine⟨aL (by assumption) (by assumption),?_⟩
  repeat' exact trivial
 have N:b.drop k=[]:=List.drop_eq_nil_of_le (by have:=congrArg List.length hd;simp at this;omega);rw[hd,N] at M;have J:decide (a=b)=true:=decide_eq_true (M.1 rfl);refine W.exit (aW (aT (aS (qs (W.seq (W.region (pE rfl (WO.nil (qs (W.ret (QF.aw trivial rfl ?_)))))))))));rw[J];rfl
theorem Ag (a b:List (Int×Int)):ay Tryz.prog 45 [.d (.sl (a.map eQ)),.d (.sl (b.map eQ))] (.d (.v (.bool (decide (a=b))))) 0:=by
 refine ay.aZ (n:=26) (ts:=[4]) Tryz.func45 (by kernel_rfl) rfl Tryz.ntmps45 Tryz.results45 rfl rfl fun C hC hG=>?_;refine W.seq (W.region (pE rfl (WO.nil (qs ?_))));iterate 2 refine W.seq ?_
 refine W.region ?_;iterate 5 refine pE rfl ?_
 refine WO.nil (qs (ab rfl (fun I=>?_) (fun I=>?_)));·
  have J:decide (a=b)=false:=decide_eq_false (by rintro rfl;simp at I);refine W.seq (W.region (pE rfl (WO.nil (qs (W.ret (an (QF.aw trivial rfl ?_)))))));rw[J];rfl
 have ad:a.length=b.length:=by simp at I;omega
 refine W.skip (qs ?_);iterate 2 refine W.seq ?_
 refine W.region ?_;iterate 3 refine pE rfl ?_
 refine WO.nil (qs (W.block (W.len (t:=0) rfl rfl (fun hlen=>?_))));try simp only[List.length_map,Ex.aF] at hlen
 refine W.bh (ι:={x:Nat // match x with | k=>k≤a.length∧(a.drop k=b.drop k↔a=b)})
  (fun x=>match x.1 with | k=>[(13,.d (.v (.int .i64 ((k:Nat):Int))))]) [(0,_),(1,_),(12,_)]
  (fun x=>match x.1 with | k=>[]) [] [] 0 (fun x=>match x.1 with | k=>a.length - k)
  [] ⟨0,?_⟩ rfl ?_ ⟨rfl,rfl,rfl,rfl,rfl,rfl,trivial⟩ ?_ trivial rfl ?_
 ·exact⟨Nat.zero_le _,by simp⟩
 ·repeat' first | exact trivial | refine⟨rfl,?_⟩
 ·repeat' exact trivial
 rintro⟨k,hk,M⟩;show W _ _ _ _ _ ⟨[(13,.d (.v (.int .i64 ((k:Nat):Int)))),(0,_),(1,_),(12,_)],[],[],0⟩;refine W.seq (W.region (pE rfl (WO.nil (qs (W.seq (bu (l:=a) (k:=k) rfl (by simp[Ex.aF,au]) hk (fun x hx hd Z=>?_) (fun he hd=>?_)))))));·
  obtain⟨y,hy⟩:∃ y,b[k]? = some y:=⟨b[k]'(by omega),by simp⟩;have N:b.drop k=y::b.drop (k+1):=by
   have X:k < b.length:=by omega
   have:=List.drop_eq_getElem_cons X;rw[this,(List.getElem?_eq_some_iff.1 hy).2]
  rw[hd,N] at M;refine W.skip (qs (W.seq (W.block (W.seq (W.region ?_)))));iterate 2 refine pE rfl ?_
  refine WO.nil (qs (W.seq (W.ey aa (by kernel_rfl) ?_)));iterate 2 refine aJ (ev aa rfl) rfl ?_
  refine aJ (indexAddr (l:=eQ x) aa rfl rfl rfl rfl rfl rfl (Int.natCast_nonneg _) (aM hx) rfl) rfl ?_;refine aJ (ev aa rfl) rfl ?_;iterate 2 refine aJ (ev aa rfl) rfl ?_
  refine aJ (indexAddr (l:=eQ y) aa rfl rfl rfl rfl rfl rfl (Int.natCast_nonneg _) (aM hy) rfl) rfl ?_;refine aJ (ev aa rfl) rfl ?_;refine aJ (ev aa rfl) rfl ?_;refine CH.nil ?_;refine qs (ab rfl (fun O=>?_) (fun O=>?_));·
   have U:x≠y:=by rintro rfl;simp at O
   have J:decide (a=b)=false:=decide_eq_false (fun q=>by have:=M.2 q;simp at this;exact U this.1);refine W.seq (W.region (pE rfl (WO.nil (qs (W.ret (aC (an (cn (aC (an (QF.aw trivial rfl ?_)))))))))));rw[J];rfl
  have U:x=y:=by
   have q:x.1=y.1∧x.2=y.2:=by simpa [eQ] using O
   exact Prod.ext q.1 q.2
  have hn:a.drop (k+1)=b.drop (k+1)↔a=b:=by rw[←M,U];simp
  refine W.skip (be (qs (W.region ?_)));iterate 2 refine pE rfl ?_
  refine WO.nil (W.bt [] ⟨k+1,?_⟩ ?_ rfl ?_ ⟨rfl,rfl,rfl,rfl,rfl,rfl,trivial⟩ ?_ trivial rfl);·exact⟨Z,hn⟩
  ·dsimp only;omega
  ·repeat' first | exact trivial | refine⟨aL (by assumption) (by assumption),?_⟩
  repeat' exact trivial
 have N:b.drop k=[]:=List.drop_eq_nil_of_le (by have:=congrArg List.length hd;simp at this;omega);rw[hd,N] at M;have J:decide (a=b)=true:=decide_eq_true (M.1 rfl);refine W.exit (aW (aT (aS (qs (W.seq (W.region (pE rfl (WO.nil (qs (W.ret (QF.aw trivial rfl ?_)))))))))));rw[J];rfl
theorem As:ay Tryz.prog 46 [.d (.sl []),.d (.sl [])] (.d (.v (.bool true))) 0:=by
 refine ay.aZ (n:=26) (ts:=[4]) Tryz.func46 (by kernel_rfl) rfl Tryz.ntmps46 Tryz.results46 rfl rfl fun C hC O=>?_;refine W.seq (W.region (pE rfl (WO.nil (qs ?_))));iterate 2 refine W.seq ?_
 refine W.region ?_;iterate 5 refine pE rfl ?_
 refine WO.nil (qs (ab rfl (fun I=>?_) (fun I=>?_)));·exfalso;simp at I
 refine W.skip (qs ?_);iterate 2 refine W.seq ?_
 refine W.region ?_;iterate 3 refine pE rfl ?_
 refine WO.nil (qs (W.block ?_))
 refine W.bh (ι:={x:Nat // match x with | k=>k≤([]:List (List D)).length})
  (fun x=>match x.1 with | k=>[(13,.d (.v (.int .i64 ((k:Nat):Int))))]) [(0,_),(1,_),(12,_)]
  (fun x=>match x.1 with | k=>[]) [] [] 0 (fun x=>match x.1 with | k=>([]:List (List D)).length - k)
  [] ⟨0,?_⟩ rfl ?_ ⟨rfl,rfl,rfl,rfl,rfl,rfl,trivial⟩ ?_ trivial rfl ?_
 ·exact Nat.zero_le _
 ·repeat' first | exact trivial | refine⟨rfl,?_⟩
 ·repeat' exact trivial
 rintro⟨k,J⟩;show W _ _ _ _ _ ⟨[(13,.d (.v (.int .i64 ((k:Nat):Int)))),(0,_),(1,_),(12,_)],[],[],0⟩;refine W.seq (W.region (pE rfl (WO.nil (qs (W.seq (bu (l:=([]:List (List D))) (k:=k) rfl (by simp[Ex.aF,au]) J (fun d M hd N=>?_) (fun he hd=>?_)))))));·exfalso;simp at M
 refine W.exit (aW (aT (aS (qs (W.seq (W.region (pE rfl (WO.nil (qs (W.ret (QF.aw trivial rfl ?_)))))))))));rfl
theorem y7 (fid:Nat) (p:Ev→Ev→Bool) (hp:∀ x y:Ev,ay Tryz.prog fid [.ag (Ev.c x),.ag (Ev.c y)] (.d (.v (.bool (p x y)))) 0) (l m:List Ev) :
 ay Tryz.prog 93 [.d (.sl (l.map Ev.c)),.d (.sl (m.map Ev.c)),.clo fid []] (.d (.v (.bool (eR p l m)))) 0:=by
 refine ay.aZ (n:=32) (ts:=[6]) Tryz.func93 (by kernel_rfl) rfl Tryz.ntmps93 Tryz.results93 rfl rfl fun C hC hG=>?_;refine W.seq (W.region (pE rfl (WO.nil (qs ?_))));iterate 2 refine W.seq ?_
 refine W.region ?_;iterate 5 refine pE rfl ?_
 refine WO.nil (qs (ab rfl (fun J=>?_) (fun J=>?_)));·
  have M:eR p l m=false:=by
   cases he:eR p l m with
   | false=>rfl
   | true=>have:=qx he;simp at J;omega
  refine W.seq (W.region (pE rfl (WO.nil (qs (W.ret (an (QF.aw trivial rfl ?_)))))));rw[M];rfl
 have hl:l.length=m.length:=by simp at J;omega
 refine W.skip (qs ?_);iterate 2 refine W.seq ?_
 refine W.region ?_;iterate 3 refine pE rfl ?_
 refine WO.nil (qs (W.block (W.len (t:=0) rfl rfl (fun hlen=>?_))));try simp only[List.length_map,Ex.aF] at hlen
 refine W.bh (ι:={x:Nat // match x with | k=>k≤l.length∧eR p (l.drop k) (m.drop k)=eR p l m})
  (fun x=>match x.1 with | k=>[(17,.d (.v (.int .i64 ((k:Nat):Int))))]) [(1,_),(2,_),(15,_),(16,_)]
  (fun x=>match x.1 with | k=>[]) [] [] 0 (fun x=>match x.1 with | k=>l.length - k)
  [] ⟨0,?_⟩ rfl ?_ ⟨rfl,rfl,rfl,rfl,rfl,rfl,rfl,rfl,trivial⟩ ?_ trivial rfl ?_
 ·exact⟨Nat.zero_le _,by simp⟩
 ·repeat' first | exact trivial | refine⟨rfl,?_⟩
 ·repeat' exact trivial
 rintro⟨k,hk,I⟩;show W _ _ _ _ _ ⟨[(17,.d (.v (.int .i64 ((k:Nat):Int)))),(1,_),(2,_),(15,_),(16,_)],[],[],0⟩;refine W.seq (W.region (pE rfl (WO.nil (qs (W.seq (bu (l:=l) (k:=k) rfl (by simp[Ex.aF,au]) hk (fun x hx hd U=>?_) (fun he hd=>?_)))))));·
  obtain⟨y,hy,X⟩:=yT (l:=m) (k:=k) (by omega);rw[hd,X] at I;simp only[eR] at I;have Z:=hp x y;refine W.skip (qs (W.seq (W.block (W.seq (W.region (pE rfl (pu (indexAddr (l:=Ev.c x) aa rfl rfl rfl rfl rfl rfl (Int.natCast_nonneg _) (aM hx) rfl) rfl ?_)))))));refine pE rfl (aQ aa rfl rfl rfl (pE rfl (ar aa rfl rfl rfl rfl rfl rfl rfl rfl (WO.nil (qs (W.seq (W.region ?_)))))));iterate 2 refine pE rfl ?_
  refine pu (indexAddr (l:=Ev.c y) aa rfl rfl rfl rfl rfl rfl (Int.natCast_nonneg _) (aM hy) rfl) rfl ?_;refine pE rfl (aQ aa rfl rfl rfl (ar aa rfl rfl rfl rfl rfl rfl rfl rfl (WO.nil (qs (W.seq (W.region (pE rfl (pE rfl (pE rfl (pu (ao rfl rfl rfl Z rfl) rfl ?_))))))))));refine pE rfl (WO.nil (qs (ab rfl (fun N=>?_) (fun N=>?_))));·
   have O:p x y=false:=by simpa using N
   have M:eR p l m=false:=by rw[←I,O];rfl
   refine W.seq (W.region (pE rfl (WO.nil (qs (W.ret (aC (an (cn (aC (an (QF.aw trivial rfl ?_)))))))))));rw[M];rfl
  have O:p x y=true:=by simpa using N
  rw[O,Bool.true_and] at I;refine W.skip (be (qs (W.region ?_)));iterate 2 refine pE rfl ?_
  refine WO.nil (W.bt [] ⟨k+1,?_⟩ ?_ rfl ?_ ⟨rfl,rfl,rfl,rfl,rfl,rfl,rfl,rfl,trivial⟩ ?_ trivial rfl);·exact⟨U,I⟩
  ·dsimp only;omega
  ·repeat' first | exact trivial | refine⟨aL (by assumption) (by assumption),?_⟩
  repeat' exact trivial
 rw[hd,dropEnd (l:=m) (by omega)] at I;have M:eR p l m=true:=I.symm;refine W.exit (aW (aT (aS (qs (W.seq (W.region (pE rfl (WO.nil (qs (W.ret (QF.aw trivial rfl ?_)))))))))));rw[M];rfl
theorem yr (fid:Nat) (p:bl→bl→Bool) (hp:∀ x y:bl,ay Tryz.prog fid [.ag (bl.c x),.ag (bl.c y)] (.d (.v (.bool (p x y)))) 0) (l m:List bl) :
 ay Tryz.prog 47 [.d (.sl (l.map bl.c)),.d (.sl (m.map bl.c)),.clo fid []] (.d (.v (.bool (eR p l m)))) 0:=by
 refine ay.aZ (n:=32) (ts:=[6]) Tryz.func47 (by kernel_rfl) rfl Tryz.ntmps47 Tryz.results47 rfl rfl fun C hC hG=>?_;refine W.seq (W.region (pE rfl (WO.nil (qs ?_))));iterate 2 refine W.seq ?_
 refine W.region ?_;iterate 5 refine pE rfl ?_
 refine WO.nil (qs (ab rfl (fun J=>?_) (fun J=>?_)));·
  have M:eR p l m=false:=by
   cases he:eR p l m with
   | false=>rfl
   | true=>have:=qx he;simp at J;omega
  refine W.seq (W.region (pE rfl (WO.nil (qs (W.ret (an (QF.aw trivial rfl ?_)))))));rw[M];rfl
 have hl:l.length=m.length:=by simp at J;omega
 refine W.skip (qs ?_);iterate 2 refine W.seq ?_
 refine W.region ?_;iterate 3 refine pE rfl ?_
 refine WO.nil (qs (W.block (W.len (t:=0) rfl rfl (fun hlen=>?_))));try simp only[List.length_map,Ex.aF] at hlen
 refine W.bh (ι:={x:Nat // match x with | k=>k≤l.length∧eR p (l.drop k) (m.drop k)=eR p l m})
  (fun x=>match x.1 with | k=>[(17,.d (.v (.int .i64 ((k:Nat):Int))))]) [(1,_),(2,_),(15,_),(16,_)]
  (fun x=>match x.1 with | k=>[]) [] [] 0 (fun x=>match x.1 with | k=>l.length - k)
  [] ⟨0,?_⟩ rfl ?_ ⟨rfl,rfl,rfl,rfl,rfl,rfl,rfl,rfl,trivial⟩ ?_ trivial rfl ?_
 ·exact⟨Nat.zero_le _,by simp⟩
 ·repeat' first | exact trivial | refine⟨rfl,?_⟩
 ·repeat' exact trivial
 rintro⟨k,hk,I⟩;show W _ _ _ _ _ ⟨[(17,.d (.v (.int .i64 ((k:Nat):Int)))),(1,_),(2,_),(15,_),(16,_)],[],[],0⟩;refine W.seq (W.region (pE rfl (WO.nil (qs (W.seq (bu (l:=l) (k:=k) rfl (by simp[Ex.aF,au]) hk (fun x hx hd U=>?_) (fun he hd=>?_)))))));·
  obtain⟨y,hy,X⟩:=yT (l:=m) (k:=k) (by omega);rw[hd,X] at I;simp only[eR] at I;have Z:=hp x y;refine W.skip (qs (W.seq (W.block (W.seq (W.region (pE rfl (pu (indexAddr (l:=bl.c x) aa rfl rfl rfl rfl rfl rfl (Int.natCast_nonneg _) (aM hx) rfl) rfl ?_)))))));refine pE rfl (aQ aa rfl rfl rfl (pE rfl (ar aa rfl rfl rfl rfl rfl rfl rfl rfl (WO.nil (qs (W.seq (W.region ?_)))))));iterate 2 refine pE rfl ?_
  refine pu (indexAddr (l:=bl.c y) aa rfl rfl rfl rfl rfl rfl (Int.natCast_nonneg _) (aM hy) rfl) rfl ?_;refine pE rfl (aQ aa rfl rfl rfl (ar aa rfl rfl rfl rfl rfl rfl rfl rfl (WO.nil (qs (W.seq (W.region (pE rfl (pE rfl (pE rfl (pu (ao rfl rfl rfl Z rfl) rfl ?_))))))))));refine pE rfl (WO.nil (qs (ab rfl (fun N=>?_) (fun N=>?_))));·
   have O:p x y=false:=by simpa using N
   have M:eR p l m=false:=by rw[←I,O];rfl
   refine W.seq (W.region (pE rfl (WO.nil (qs (W.ret (aC (an (cn (aC (an (QF.aw trivial rfl ?_)))))))))));rw[M];rfl
  have O:p x y=true:=by simpa using N
  rw[O,Bool.true_and] at I;refine W.skip (be (qs (W.region ?_)));iterate 2 refine pE rfl ?_
  refine WO.nil (W.bt [] ⟨k+1,?_⟩ ?_ rfl ?_ ⟨rfl,rfl,rfl,rfl,rfl,rfl,rfl,rfl,trivial⟩ ?_ trivial rfl);·exact⟨U,I⟩
  ·dsimp only;omega
  ·repeat' first | exact trivial | refine⟨aL (by assumption) (by assumption),?_⟩
  repeat' exact trivial
 rw[hd,dropEnd (l:=m) (by omega)] at I;have M:eR p l m=true:=I.symm;refine W.exit (aW (aT (aS (qs (W.seq (W.region (pE rfl (WO.nil (qs (W.ret (QF.aw trivial rfl ?_)))))))))));rw[M];rfl
theorem Ci (p q:bl):ay Tryz.prog 49 [.ag p.c,.ag q.c] (.d (.v (.bool (lf p q)))) 0:=by
 refine ay.aZ (n:=31) (ts:=[4]) Tryz.func49 (by kernel_rfl) rfl Tryz.ntmps49 Tryz.results49 rfl rfl fun C hC I=>?_;refine W.seq (W.region (bK rfl rfl rfl (bK rfl rfl rfl (pE rfl (WO.nil (qs (W.seq ?_)))))));apply aG;(case hb=>rfl);·repeat' first | refine bg rfl rfl rfl | refine aH rfl rfl ?_ | refine aE rfl rfl rfl rfl ?_ | refine pE rfl ?_ | refine pu (ao rfl rfl rfl (y7 94 ub DP p.evs q.evs) rfl) rfl ?_ | refine WO.nil ?_ | (apply aP;(case hj=>rfl);(case hl=>rfl))
 refine qs (W.ret (QF.aw trivial rfl ?_));simp only[norm,aI,lf];cases decide (p.thread=q.thread) <;> cases decide (p.serial=q.serial) <;> cases decide (p.lost=q.lost) <;> rfl
theorem zf (p q:bl):ay Tryz.prog 48 [.ag p.c,.ag q.c] (.d (.v (.bool (lf p q)))) 0:=by refine ay.aZ (n:=8) (ts:=[4]) Tryz.func48 (by kernel_rfl) rfl Tryz.ntmps48 Tryz.results48 rfl rfl fun C hC I=>?_;refine W.seq (W.region (bK rfl rfl rfl (bK rfl rfl rfl (pE rfl (WO.nil (qs (W.seq (W.region (pE rfl (pE rfl (pu (ao rfl rfl rfl (Ci p q) rfl) rfl ?_)))))))))));refine pE rfl (WO.nil (qs (W.ret (QF.aw trivial rfl ?_))));rfl
theorem Cx (a b:iV):ay Tryz.prog 17 [.ag a.c,.ag b.c] (.d (.v (.bool (ov a b)))) 0:=by
 refine ay.aZ (n:=37) (ts:=[4]) Tryz.func17 (by kernel_rfl) rfl Tryz.ntmps17 Tryz.results17 rfl rfl fun C hC I=>?_;refine W.seq (W.region (bK rfl rfl rfl (bK rfl rfl rfl (pE rfl (WO.nil (qs (W.seq (W.mD aa 7 2 (by kernel_rfl) rfl rfl ?_))))))));refine et rfl (ev aa rfl) rfl ?_;refine et rfl (ev aa rfl) rfl ?_;refine et rfl (ev aa rfl) rfl ?_;refine et rfl (ev aa rfl) rfl ?_;refine pr 0 rfl rfl rfl rfl rfl rfl ?_;refine pr 1 rfl rfl rfl rfl rfl rfl ?_;refine rY 4 0 rfl rfl rfl rfl rfl rfl rfl rfl rfl rfl rfl rfl ?_;refine CE.nil ?_;refine ar aa rfl rfl rfl rfl rfl rfl rfl rfl (WO.nil (qs (W.seq ?_)));apply aG;(case hb=>rfl);·repeat' first | refine bg rfl rfl rfl | refine aH rfl rfl ?_ | refine aE rfl rfl rfl rfl ?_ | refine pE rfl ?_ | refine pu (ao rfl rfl rfl (Ax a.ts b.ts) rfl) rfl ?_ | refine pu (ao rfl rfl rfl (Ag a.ds b.ds) rfl) rfl ?_ | refine pu (ao rfl rfl rfl As rfl) rfl ?_ | refine pu (ao rfl rfl rfl (yr 48 lf zf a.ps b.ps) rfl) rfl ?_ | refine WO.nil ?_ | (apply aP;(case hj=>rfl);(case hl=>rfl))
 refine qs (W.ret (QF.aw trivial rfl ?_));simp only[norm,aI,ov];cases decide (a.ts=b.ts) <;> cases decide (a.ds=b.ds) <;> rfl
end Go.Proofs.YtpiaiiopakafhaaGreatDoor
namespace Go.Proofs.YtpiaiiopakafhaaGreatDoor
open Go.Ab Go.Tb
set_option maxRecDepth 10000
set_option maxHeartbeats 1000000
attribute [local irreducible] W WO Pu QS QB QL QF QV bA CH QE
theorem zQ (l:List Int) (s:Int):ay Tryz.prog 162 [.d (.sl (l.map ic)),.d (.v (.int .i64 s))] (.d (.v (.int .i64 (idx (l.findIdx? fun x=>decide (s=x)))))) 0:=by
 refine ay.aZ (n:=19) (ts:=[4]) Tryz.func162 (by kernel_rfl) rfl Tryz.ntmps162 Tryz.results162 rfl rfl fun C hC U=>?_;refine W.seq (W.region (pE rfl (WO.nil (qs ?_))));iterate 2 refine W.seq ?_
 refine W.region ?_;iterate 3 refine pE rfl ?_
 refine WO.nil (qs (W.block (W.len (t:=0) rfl rfl (fun hlen=>?_))));try simp only[List.length_map,Ex.aF] at hlen
 refine W.bh (ι:={x:Nat // match x with | k=>k≤l.length∧bJ (fun x=>decide (s=x)) l k})
  (fun x=>match x.1 with | k=>[(8,.d (.v (.int .i64 ((k:Nat):Int))))]) [(0,_),(1,_),(7,_)]
  (fun x=>match x.1 with | k=>[]) [] [] 0 (fun x=>match x.1 with | k=>l.length - k)
  [] ⟨0,?_⟩ rfl ?_ ⟨rfl,rfl,rfl,rfl,rfl,rfl,trivial⟩ ?_ trivial rfl ?_
 ·exact⟨Nat.zero_le _,bJ.zero⟩
 ·repeat' first | exact trivial | refine⟨rfl,?_⟩
 ·repeat' exact trivial
 rintro⟨k,O,J⟩;show W _ _ _ _ _ ⟨[(8,.d (.v (.int .i64 ((k:Nat):Int)))),(0,_),(1,_),(7,_)],[],[],0⟩;refine W.seq (W.region (pE rfl (WO.nil (qs (W.seq (bu (l:=l) (k:=k) rfl (by simp[Ex.aF,au]) O (fun x M hd N=>?_) (fun he hd=>?_)))))));·
  refine W.skip (qs (W.seq (W.block (W.seq (W.region ?_)))));iterate 2 refine pE rfl ?_
  refine WO.nil (qs (W.seq (W.region ?_)));iterate 3 refine pE rfl ?_
  refine pu (indexAddr aa rfl rfl rfl rfl rfl rfl (Int.natCast_nonneg _) (aM (by assumption)) rfl) rfl ?_;refine pE rfl (pE rfl (WO.nil (qs (ab rfl (fun I=>?_) (fun I=>?_)))));·
   refine W.seq (W.region ?_);iterate 2 refine pE rfl ?_
   refine WO.nil (qs (W.ret (aC (an (cn (aC (an (QF.aw trivial rfl ?_))))))));simp only[norm,aI];rw[J.found M I];rfl
  refine W.skip (be (qs (W.region ?_)));iterate 2 refine pE rfl ?_
  refine WO.nil (W.bt [] ⟨k+1,?_⟩ ?_ rfl ?_ ⟨rfl,rfl,rfl,rfl,rfl,rfl,trivial⟩ ?_ trivial rfl);·exact⟨N,J.step M I⟩
  ·dsimp only;omega
  ·repeat' first | exact trivial | refine⟨aL (by assumption) (by assumption),?_⟩
  repeat' exact trivial
 refine W.exit (aW (aT (aS (qs (W.seq (W.region (pE rfl (WO.nil (qs (W.ret (QF.aw trivial rfl ?_)))))))))));simp only[norm,aI];rw[J.end_ he];rfl
theorem vb (l:List Int) (s:Int):ay Tryz.prog 121 [.d (.sl (l.map ic)),.d (.v (.int .i64 s))] (.d (.v (.bool (l.any fun x=>decide (s=x))))) 0:=by
 refine ay.aZ (n:=9) (ts:=[4]) Tryz.func121 (by kernel_rfl) rfl Tryz.ntmps121 Tryz.results121 rfl rfl fun C hC I=>?_;refine W.seq (W.region (pE rfl (WO.nil (qs (W.seq (W.region ?_))))));iterate 2 refine pE rfl ?_
 refine pu (ao rfl rfl rfl (zQ ..) rfl) rfl ?_;iterate 2 refine pE rfl ?_
 refine WO.nil (qs (W.ret (QF.aw trivial rfl ?_)));simp only[norm,aI];rw[←jv]
end Go.Proofs.YtpiaiiopakafhaaGreatDoor
namespace Go.Proofs.YtpiaiiopakafhaaGreatDoor
open Go.Ab Go.Tb
set_option maxRecDepth 10000
set_option maxHeartbeats 1000000
attribute [local irreducible] W WO Pu QS QB QL QF QV bA CH QE
end Go.Proofs.YtpiaiiopakafhaaGreatDoor
namespace Go.Proofs.YtpiaiiopakafhaaGreatDoor
open Go.Ab Go.Tb
set_option maxRecDepth 10000
set_option maxHeartbeats 1000000
attribute [local irreducible] W WO Pu QS QB QL QF QV bA CH QE
end Go.Proofs.YtpiaiiopakafhaaGreatDoor
namespace Go.Proofs.YtpiaiiopakafhaaGreatDoor
open Go.Ab Go.Tb
set_option maxRecDepth 10000
set_option maxHeartbeats 1000000
attribute [local irreducible] W WO Pu QS QB QL QF QV bA CH QE
end Go.Proofs.YtpiaiiopakafhaaGreatDoor
namespace Go.Proofs.YtpiaiiopakafhaaGreatDoor
open Go.Ab Go.Tb
set_option maxRecDepth 10000
set_option maxHeartbeats 1000000
attribute [local irreducible] W WO Pu QS QB QL QF QV bA CH QE
def qN (l:List Ev) (k:Nat):Option Int:=if k=0 then none else (l[k - 1]?).map Ev.time
theorem sub_one {k:Nat} (h:0 < k) (hm:(k:Int)≤9223372036854775807):IntKind.i64.wrap ((k:Int) - 1)=((k - 1:Nat):Int):=by rw[wrap64 (by omega)];omega
theorem wx (l:List Ev):ay Tryz.prog 156 [.d (.sl (l.map Ev.c))] (.d (.v (.int .i64 (iO l none)))) 0:=by
 refine ay.aZ (n:=32) (ts:=[2]) Tryz.func156 (by kernel_rfl) rfl Tryz.ntmps156 Tryz.results156 rfl rfl fun C hC hG=>?_;refine W.seq (W.region (pE rfl (WO.nil (qs ?_))));iterate 2 refine W.seq ?_
 refine W.region ?_;iterate 3 refine pE rfl ?_
 refine WO.nil (qs (W.block (W.len (t:=0) rfl rfl (fun hlen=>?_))));try simp only[List.length_map,Ex.aF] at hlen
 refine W.bh (ι:={x:Nat // match x with | k=>k≤l.length∧iO (l.drop k) (qN l k)=iO l none})
  (fun x=>match x.1 with | k=>[(8,.d (.v (.int .i64 ((k:Nat):Int))))]) [(0,_),(6,_),(7,_)]
  (fun x=>match x.1 with | k=>[]) [] [] 0 (fun x=>match x.1 with | k=>l.length - k)
  [] ⟨0,?_⟩ rfl ?_ ⟨rfl,rfl,rfl,rfl,rfl,rfl,trivial⟩ ?_ trivial rfl ?_
 ·exact⟨Nat.zero_le _,rfl⟩
 ·repeat' first | exact trivial | refine⟨rfl,?_⟩
 ·repeat' exact trivial
 rintro⟨k,hk,I⟩;show W _ _ _ _ _ ⟨[(8,.d (.v (.int .i64 ((k:Nat):Int)))),(0,_),(6,_),(7,_)],[],[],0⟩;refine W.seq (W.region (pE rfl (WO.nil (qs (W.seq (bu (l:=l) (k:=k) rfl (by simp[Ex.aF,au]) hk (fun e Z hd ad=>?_) (fun he hd=>?_)))))));·
  rw[hd] at I;simp only[iO] at I;obtain⟨p,hp⟩:∃ p:Ev,0 < k→l[k - 1]? = some p:=⟨l[k - 1]'(by omega),fun _=>by simp⟩;have O:yR (qN l k) e.time=(decide (0 < k) && decide (e.time < p.time)):=by
   unfold qN yR;by_cases q:k=0;·simp[q]
   rw[if_neg q,hp (by omega)];simp;omega
  rw[O] at I;have U:qN l (k+1)=some e.time:=by unfold qN;rw[if_neg (by omega),Nat.add_sub_cancel,Z];rfl
  refine W.skip (qs (W.seq (W.block (W.seq (W.region (pE rfl (pu (indexAddr aa rfl rfl rfl rfl rfl rfl (Int.natCast_nonneg _) (aM Z) rfl) rfl ?_)))))));refine pE rfl (aQ aa rfl rfl rfl (pE rfl (ar aa rfl rfl rfl rfl rfl rfl rfl rfl (WO.nil (qs ?_)))));iterate 2 refine W.seq ?_
  refine W.region (pE rfl (pu (ao rfl rfl rfl (tM e) rfl) rfl ?_));refine pE rfl (WO.nil (qs (W.seq (W.region ?_))));iterate 2 refine pE rfl ?_
  refine WO.nil (qs (ab rfl (fun J=>?_) (fun J=>?_)));·
   have X:ct e≠0:=by simpa using J
   rw[if_pos X] at I;refine W.seq (W.region ?_);iterate 2 refine pE rfl ?_
   refine WO.nil (qs (W.ret (an (aC (an (cn (aC (an (QF.aw trivial rfl ?_)))))))));simp only[norm,aI,←I]
  have X:ct e=0:=by simpa using J
  rw[if_neg (by simp[X])] at I;refine W.skip (qs (W.seq ?_));apply mL aa;(case hb=>rfl);(case hB=>kernel_rfl);·
   iterate 3 refine aJ (ev aa rfl) rfl ?_
   apply nw;(case hj=>rfl);(case hl=>rfl);·
    intro g20;refine cS rfl rfl (ev aa rfl) rfl ?_;refine cS rfl rfl (ev aa rfl) rfl ?_;refine cS rfl rfl (ev aa rfl) rfl ?_;refine cS rfl rfl (ev aa rfl) rfl ?_;refine cS rfl rfl (cU (ev aa rfl) (y:=((k - 1:Nat):Int)) (sub_one (by simpa using g20) (by simp only[maxLen] at hlen;omega))) rfl ?_;refine cS rfl rfl (indexAddr (l:=p.c) aa rfl rfl rfl rfl rfl rfl (Int.natCast_nonneg _) (aM (hp (by simpa using g20))) rfl) rfl ?_;refine cS rfl rfl (ev aa rfl) rfl ?_;refine cS rfl rfl (ev aa rfl) rfl ?_;refine cS rfl rfl (ev aa rfl) rfl ?_;refine aJ (ev aa rfl) rfl ?_;refine CH.nil ?_;refine bg rfl rfl rfl
   intro g20;iterate 9 refine qU rfl rfl rfl rfl ?_
   refine aJ (ev aa rfl) rfl ?_;refine CH.nil ?_;refine bg rfl rfl rfl
  refine qs (ab rfl (fun M=>?_) (fun M=>?_));·
   have N:(decide (0 < k) && decide (e.time < p.time))=true:=by simp at M ⊢;omega
   rw[if_pos N] at I;refine W.seq (W.region (pE rfl (WO.nil (qs (W.ret (aC (an (cn (aC (an (QF.aw trivial rfl ?_)))))))))));simp only[norm,aI,←I]
  have N:(decide (0 < k) && decide (e.time < p.time))=false:=by simp at M ⊢;omega
  rw[if_neg (by rw[N];decide)] at I;refine W.skip (be (qs (W.region ?_)));iterate 2 refine pE rfl ?_
  refine WO.nil (W.bt [] ⟨k+1,?_⟩ ?_ rfl ?_ ⟨rfl,rfl,rfl,rfl,rfl,rfl,trivial⟩ ?_ trivial rfl);·exact⟨ad,by rw[U];exact I⟩
  ·dsimp only;omega
  ·repeat' first | exact trivial | refine⟨aL (by assumption) (by assumption),?_⟩
  repeat' exact trivial
 rw[hd] at I;simp only[iO] at I;refine W.exit (aW (aT (aS (qs (W.seq (W.region (pE rfl (WO.nil (qs (W.ret (QF.aw trivial rfl ?_)))))))))));simp only[norm,aI,←I]
theorem sO (fid:Nat) (caps:List A) (I:Still caps) (p:Int×Int→Bool) (hp:∀ x:Int×Int,ay Tryz.prog fid (.ag (eQ x)::caps) (.d (.v (.bool (p x)))) 0) (l:List (Int×Int)) :
 ay Tryz.prog 155 [.d (.sl (l.map eQ)),.clo fid caps] (.d (.v (.int .i64 (idx (l.findIdx? p))))) 0:=by
 refine ay.aZ (n:=19) (ts:=[4]) Tryz.func155 (by kernel_rfl) rfl Tryz.ntmps155 Tryz.results155 rfl rfl fun C hC X=>?_;refine W.seq (W.region (pE rfl (WO.nil (qs ?_))));iterate 2 refine W.seq ?_
 refine W.region ?_;iterate 3 refine pE rfl ?_
 refine WO.nil (qs (W.block (W.len (t:=0) rfl rfl (fun hlen=>?_))));try simp only[List.length_map,Ex.aF] at hlen
 refine W.bh (ι:={x:Nat // match x with | k=>k≤l.length∧bJ p l k})
  (fun x=>match x.1 with | k=>[(8,.d (.v (.int .i64 ((k:Nat):Int))))]) [(0,_),(1,_),(7,_)]
  (fun x=>match x.1 with | k=>[]) [] [] 0 (fun x=>match x.1 with | k=>l.length - k)
  [] ⟨0,?_⟩ rfl ?_ ⟨rfl,(by first | rfl | exact I.2),rfl,(by first | rfl | exact I.2),rfl,(by first | rfl | exact I.2),trivial⟩ ?_ trivial rfl ?_
 ·exact⟨Nat.zero_le _,bJ.zero⟩
 ·repeat' first | exact trivial | refine⟨rfl,?_⟩
 ·repeat' exact trivial
 rintro⟨k,U,M⟩;show W _ _ _ _ _ ⟨[(8,.d (.v (.int .i64 ((k:Nat):Int)))),(0,_),(1,_),(7,_)],[],[],0⟩;refine W.seq (W.region (pE rfl (WO.nil (qs (W.seq (bu (l:=l) (k:=k) rfl (by simp[Ex.aF,au]) U (fun x N hd O=>?_) (fun he hd=>?_)))))));·
  refine W.skip (qs (W.seq (W.block (W.seq (W.region ?_)))));iterate 2 refine pE rfl ?_
  refine WO.nil (qs (W.seq (W.region ?_)));iterate 3 refine pE rfl ?_
  refine pu (indexAddr aa rfl rfl rfl rfl rfl rfl (Int.natCast_nonneg _) (aM N) rfl) rfl ?_;refine pE rfl (pu (ao rfl rfl (by rw[List.map_append,I.1 _ 3];rfl) (hp x) rfl) rfl ?_);refine WO.nil (qs (ab rfl (fun J=>?_) (fun J=>?_)));·
   refine W.seq (W.region ?_);iterate 2 refine pE rfl ?_
   refine WO.nil (qs (W.ret (aC (an (cn (aC (an (QF.aw trivial rfl ?_))))))));simp only[norm,aI];rw[M.found N J];rfl
  refine W.skip (be (qs (W.region ?_)));iterate 2 refine pE rfl ?_
  refine WO.nil (W.bt [] ⟨k+1,?_⟩ ?_ rfl ?_ ⟨rfl,(by first | rfl | exact I.2),rfl,(by first | rfl | exact I.2),rfl,(by first | rfl | exact I.2),trivial⟩ ?_ trivial rfl);·exact⟨O,M.step N J⟩
  ·dsimp only;omega
  ·repeat' first | exact trivial | refine⟨aL (by assumption) (by assumption),?_⟩
  repeat' exact trivial
 refine W.exit (aW (aT (aS (qs (W.seq (W.region (pE rfl (WO.nil (qs (W.ret (QF.aw trivial rfl ?_)))))))))));simp only[norm,aI];rw[M.end_ he];rfl
theorem yZ (fid:Nat) (caps:List A) (I:Still caps) (p:Int×Int→Bool) (hp:∀ x:Int×Int,ay Tryz.prog fid (.ag (eQ x)::caps) (.d (.v (.bool (p x)))) 0) (l:List (Int×Int)) :
 ay Tryz.prog 109 [.d (.sl (l.map eQ)),.clo fid caps] (.d (.v (.bool (l.any p)))) 0:=by
 refine ay.aZ (n:=9) (ts:=[4]) Tryz.func109 (by kernel_rfl) rfl Tryz.ntmps109 Tryz.results109 rfl rfl fun C hC J=>?_;refine W.seq (W.region (pE rfl (WO.nil (qs (W.seq (W.region ?_))))));iterate 2 refine pE rfl ?_
 refine pu (ao (args:=[.d (.sl (l.map eQ)),.clo fid caps]) rfl rfl (by simp[conv,I.1 _ 2]) (sO fid caps I p hp l) rfl) rfl ?_;iterate 2 refine pE rfl ?_
 refine WO.nil (qs (W.ret (QF.aw trivial rfl ?_)));simp only[norm,aI];rw[←jv]
theorem BR (id:Int) (d:Int×Int):ay Tryz.prog 188 [.ag (eQ d),.row [.d (.v (.int .i64 id))]] (.d (.v (.bool (decide (d.1=id))))) 0:=by
 refine ay.aZ (n:=8) (ts:=[3]) Tryz.func188 (by kernel_rfl) rfl Tryz.ntmps188 Tryz.results188 rfl rfl fun C hC I=>?_;refine W.seq (W.region (bK rfl rfl rfl (pE rfl (WO.nil (qs (W.seq (W.region (pE rfl (pE rfl (pE rfl ?_))))))))));iterate 2 refine pE rfl ?_
 refine WO.nil (qs (W.ret (QF.aw trivial rfl ?_)));rfl
theorem Aj (l:List (Int×Int)) (id:Int):ay Tryz.prog 174 [.d (.sl (l.map eQ)),.d (.v (.int .i64 id))] (.d (.v (.int .i64 (idx (l.findIdx? fun d=>decide (d.1=id)))))) 0:=by
 refine ay.aZ (n:=8) (ts:=[4]) Tryz.func174 (by kernel_rfl) rfl Tryz.ntmps174 Tryz.results174 rfl rfl fun C hC I=>?_;refine W.seq (W.region (bK rfl rfl rfl (pE rfl (WO.nil (qs (W.seq (W.region ?_)))))));iterate 2 refine pE rfl ?_
 refine pu (ao rfl rfl rfl (sO _ _ ⟨fun _ _=>rfl,rfl⟩ _ (BR id) l) rfl) rfl ?_;refine pE rfl (WO.nil (qs (W.ret (QF.aw trivial rfl ?_))));rfl
theorem BZ (t:cf) (d:Int×Int):ay Tryz.prog 110 [.ag (eQ d),.row (t.c.map A.d)] (.d (.v (.bool (decide (d.1=0))))) 0:=by
 refine ay.aZ (n:=9) (ts:=[3]) Tryz.func110 (by kernel_rfl) rfl Tryz.ntmps110 Tryz.results110 rfl rfl fun C hC I=>?_;refine W.seq (W.region (bK rfl rfl rfl (pE rfl (WO.nil (qs (W.seq (W.region (pE rfl (pE rfl (pE rfl (pE rfl ?_)))))))))));iterate 2 refine pE rfl ?_
 refine WO.nil (qs (W.ret (QF.aw trivial rfl ?_)));rfl
end Go.Proofs.YtpiaiiopakafhaaGreatDoor
namespace Go.Proofs.YtpiaiiopakafhaaGreatDoor
open Go.Ab Go.Tb
set_option maxRecDepth 10000
set_option maxHeartbeats 1000000
attribute [local irreducible] W WO Pu QS QB QL QF QV bA CH QE
theorem Dk {k:Nat} {d:Int×Int} (h:dS[k]? = some d):k=0∧d=(0,0):=by
 match k with
 | 0=>simp[dS] at h;exact⟨rfl,h.symm⟩
 | k+1=>simp[dS] at h
theorem xQ:ay Tryz.prog 153 [.d (.sl (dS.map eQ))] (.d (.v (.int .i64 0))) 0:=by
 refine ay.aZ (n:=38) (ts:=[2]) Tryz.func153 (by kernel_rfl) rfl Tryz.ntmps153 Tryz.results153 rfl rfl fun C hC Z=>?_;refine W.seq (W.region (pE rfl (WO.nil (qs ?_))));iterate 2 refine W.seq ?_
 refine W.region ?_;iterate 3 refine pE rfl ?_
 refine WO.nil (qs (W.block ?_))
 refine W.bh (ι:={x:Nat // match x with | k=>k≤dS.length})
  (fun x=>match x.1 with | k=>[(7,.d (.v (.int .i64 ((k:Nat):Int))))]) [(0,_),(5,_),(6,_)]
  (fun x=>match x.1 with | k=>[]) [] [] 0 (fun x=>match x.1 with | k=>dS.length - k)
  [] ⟨0,?_⟩ rfl ?_ ⟨rfl,rfl,rfl,rfl,rfl,rfl,trivial⟩ ?_ trivial rfl ?_
 ·exact Nat.zero_le _
 ·repeat' first | exact trivial | refine⟨rfl,?_⟩
 ·repeat' exact trivial
 rintro⟨k,O⟩;show W _ _ _ _ _ ⟨[(7,.d (.v (.int .i64 ((k:Nat):Int)))),(0,_),(5,_),(6,_)],[],[],0⟩;refine W.seq (W.region (pE rfl (WO.nil (qs (W.seq (bu (l:=dS) (k:=k) rfl (by simp[Ex.aF,au]) O (fun d U hd X=>?_) (fun he hd=>?_)))))));·
  obtain⟨M,N⟩:=Dk U;subst M;subst N;refine W.skip (qs (W.seq (W.block (W.seq (W.region (pE rfl (pu (indexAddr (l:=eQ (0,0)) aa rfl rfl rfl rfl rfl rfl (by decide) rfl rfl) rfl ?_)))))));refine pE rfl (aQ aa rfl rfl rfl (pE rfl (ar aa rfl rfl rfl rfl rfl rfl rfl rfl (WO.nil (qs ?_)))));iterate 2 refine W.seq ?_
  apply aG;(case hb=>rfl);·repeat' first | refine bg rfl rfl rfl | refine aH rfl rfl ?_ | refine pE rfl ?_ | refine WO.nil ?_
  refine qs (ab rfl (fun I=>?_) (fun I=>?_));·exfalso;simp at I
  refine W.skip (qs (W.seq (W.ey aa (by kernel_rfl) ?_)));iterate 2 refine aJ (ev aa rfl) rfl ?_
  refine aJ (vF (fn:=eQ) (l:=dS) (i:=0) (j:=0) (r:=[]) aa rfl rfl rfl rfl rfl (fun _=>rfl) rfl rfl (by decide) (by decide) (by decide) rfl) rfl ?_;refine aJ (ev aa rfl) rfl ?_;refine aJ (ev aa rfl) rfl ?_;refine aJ (ao rfl rfl rfl (Aj [] 0) rfl) rfl ?_;refine aJ (ev aa rfl) rfl ?_;refine CH.nil ?_;refine qs (ab rfl (fun J=>?_) (fun J=>?_));·exfalso;simp[idx] at J
  refine W.skip (be (qs (W.region ?_)));iterate 2 refine pE rfl ?_
  refine WO.nil (W.bt [] ⟨1,?_⟩ ?_ rfl ?_ ⟨rfl,rfl,rfl,rfl,rfl,rfl,trivial⟩ ?_ trivial rfl);·decide
  ·dsimp only;omega
  ·repeat' first | exact trivial | refine⟨rfl,?_⟩
  repeat' exact trivial
 refine W.exit (aW (aT (aS (qs (W.seq (W.region (pE rfl (WO.nil (qs (W.ret (QF.aw trivial rfl ?_)))))))))));rfl
theorem Bi:ay Tryz.prog 108 [.d (.sl (dS.map eQ)),.d (.sl [])] (.d (.v (.int .i64 0))) 0:=by
 refine ay.aZ (n:=43) (ts:=[4]) Tryz.func108 (by kernel_rfl) rfl Tryz.ntmps108 Tryz.results108 rfl rfl fun C hC Z=>?_;refine W.seq (W.region (pE rfl (WO.nil (qs ?_))));iterate 2 refine W.seq ?_
 refine W.region ?_;iterate 3 refine pE rfl ?_
 refine WO.nil (qs (ab rfl (fun I=>?_) (fun I=>?_)));·exfalso;simp[dS] at I
 refine W.skip (qs ?_);iterate 2 refine W.seq ?_
 apply aG;(case hb=>rfl);·repeat' first | refine bg rfl rfl rfl | refine aH rfl rfl ?_ | refine pE rfl ?_ | refine WO.nil ?_
 refine qs (ab rfl (fun J=>?_) (fun J=>?_));·exfalso;simp[dS] at J
 refine W.skip (qs ?_);iterate 2 refine W.seq ?_
 refine W.region (pE rfl (pu (indexAddr (l:=eQ (0,0)) aa rfl rfl rfl rfl rfl rfl (by decide) rfl rfl) rfl ?_));refine pE rfl (pu (build aa rfl rfl rfl rfl) rfl ?_);refine pE rfl (WO.nil (qs (ab rfl (fun M=>?_) (fun M=>?_))));·exfalso;simp at M <;> omega
 refine W.skip (qs ?_);iterate 2 refine W.seq ?_
 refine W.region (pE rfl (pu (ao rfl rfl rfl xQ rfl) rfl ?_));refine pE rfl (WO.nil (qs (W.seq (W.region ?_))));iterate 2 refine pE rfl ?_
 refine WO.nil (qs (ab rfl (fun N=>?_) (fun N=>?_)));·exfalso;simp at N
 refine W.skip (qs ?_);iterate 2 refine W.seq ?_
 refine W.region ?_;iterate 3 refine pE rfl ?_
 refine WO.nil (qs (W.block ?_))
 refine W.bh (ι:={x:Nat // match x with | k=>k≤([]:List (List D)).length})
  (fun x=>match x.1 with | k=>[(32,.d (.v (.int .i64 ((k:Nat):Int))))]) [(0,_),(30,_),(31,_)]
  (fun x=>match x.1 with | k=>[]) [] [] 0 (fun x=>match x.1 with | k=>([]:List (List D)).length - k)
  [] ⟨0,?_⟩ rfl ?_ ⟨rfl,rfl,rfl,rfl,rfl,rfl,trivial⟩ ?_ trivial rfl ?_
 ·exact Nat.zero_le _
 ·repeat' first | exact trivial | refine⟨rfl,?_⟩
 ·repeat' exact trivial
 rintro⟨k,O⟩;show W _ _ _ _ _ ⟨[(32,.d (.v (.int .i64 ((k:Nat):Int)))),(0,_),(30,_),(31,_)],[],[],0⟩;refine W.seq (W.region (pE rfl (WO.nil (qs (W.seq (bu (l:=([]:List (List D))) (k:=k) rfl (by simp[Ex.aF,au]) O (fun d U hd X=>?_) (fun he hd=>?_)))))));·exfalso;simp at U
 refine W.exit (aW (aT (aS (qs (W.seq (W.region (pE rfl (WO.nil (qs (W.ret (QF.aw trivial rfl ?_)))))))))));rfl
theorem C9 (t:cf):ay Tryz.prog 109 [.d (.sl (dS.map eQ)),.clo 110 [.row (t.c.map A.d)]] (.d (.v (.bool true))) 0:=
 yZ _ _ ⟨fun _ _=>rfl,rfl⟩ _ (BZ t) dS
theorem AK (p:bl) (h1:0≤p.thread∧p.thread≤1000000000000000) (h2:p.serial=0) (h3:p.lost=0) (h4:0 < p.evs.length∧p.evs.length≤1000):ay Tryz.prog 111 [.ag p.c] (.d (.v (.int .i64 (iO p.evs none)))) 0:=by
 obtain⟨J,se,lo,evs⟩:=p;simp only at h1 h2 h3 h4;subst h2;subst h3;have hlen:[J,0,0].length≤maxLen:=by simp[maxLen]
 refine ay.aZ (n:=50) (ts:=[2]) Tryz.func111 (by kernel_rfl) rfl Tryz.ntmps111 Tryz.results111 rfl rfl fun C hC hG=>?_;refine W.seq (W.region (bK rfl rfl rfl (pE rfl (WO.nil (qs ?_)))));iterate 2 refine W.seq ?_
 refine W.region (pE rfl (pE rfl (pE rfl (pE rfl (pE rfl (pE rfl (pu (ba aa rfl rfl rfl rfl rfl rfl rfl rfl rfl) rfl ?_)))))));iterate 2 refine pE rfl ?_
 refine WO.nil (qs (W.block ?_))
 refine W.bh (ι:={x:Nat // match x with | k=>k≤[J,0,0].length})
  (fun x=>match x.1 with | k=>[(1,.ptr 0 0),(13,.d (.v (.int .i64 ((k:Nat):Int))))]) [(11,_),(12,_)]
  (fun x=>match x.1 with | k=>[(0,(bl.c ⟨J,0,0,evs⟩).map A.d)]) [] [] 1 (fun x=>match x.1 with | k=>[J,0,0].length - k)
  [0] ⟨0,?_⟩ rfl ?_ ⟨rfl,rfl,rfl,rfl,trivial⟩ ?_ trivial rfl ?_
 ·exact Nat.zero_le _
 ·repeat' first | exact trivial | refine⟨rfl,?_⟩
 ·repeat' first | exact trivial | refine⟨rfl,?_⟩
 rintro⟨k,Z⟩;show W _ _ _ _ _ ⟨[(1,.ptr 0 0),(13,.d (.v (.int .i64 ((k:Nat):Int)))),(11,_),(12,_)],[(0,(bl.c ⟨J,0,0,evs⟩).map A.d)],[],1⟩;refine W.seq (W.region (pE rfl (WO.nil (qs (W.seq (bu (l:=[J,0,0]) (k:=k) rfl (by simp[Ex.aF,au]) Z (fun y U hd X=>?_) (fun he hd=>?_)))))));·
  have hy:0≤y∧y≤1000000000000000:=by have:=List.mem_of_getElem? U;simp at this;rcases this with rfl | rfl <;> omega
  refine W.skip (qs (W.seq (W.block (W.seq (W.region (pu (indexAddr aa rfl rfl rfl rfl rfl rfl (Int.natCast_nonneg _) (aM (f:=ic) U) rfl) rfl ?_))))));refine pE rfl (pE rfl (WO.nil (qs (W.seq ?_))));apply aG;(case hb=>rfl);·repeat' first | refine bg rfl rfl rfl | refine aH rfl rfl ?_ | refine aE rfl rfl rfl rfl ?_ | refine pE rfl ?_ | refine WO.nil ?_ | (apply aP;(case hj=>rfl);(case hl=>rfl))
  refine qs (ab rfl (fun N=>?_) (fun N=>?_));·exfalso;simp at N;omega
  refine W.skip (be (qs (W.region ?_)));iterate 2 refine pE rfl ?_
  refine WO.nil (W.bt [0] ⟨k+1,?_⟩ ?_ rfl ?_ ⟨rfl,rfl,rfl,rfl,trivial⟩ ?_ trivial rfl);·exact X
  ·dsimp only;omega
  ·repeat' first | exact trivial | refine⟨rfl,?_⟩ | refine⟨aL (by assumption) (by assumption),?_⟩
  repeat' first | exact trivial | refine⟨rfl,?_⟩
 refine W.exit (aW (aT (aS (qs (W.seq (W.block ?_))))));iterate 2 refine W.seq ?_
 refine W.region (pE rfl (pE rfl (pE rfl (pE rfl ?_))));iterate 2 refine pE rfl ?_
 refine WO.nil (qs (ab rfl (fun I=>?_) (fun I=>?_)));·exfalso;simp at I <;> omega
 refine W.region (pE rfl (pE rfl (pE rfl (pE rfl (pE rfl (pu (cU (ev aa rfl) (y:=(evs.length:Int)) (by show IntKind.i64.wrap ((0:Int)+((evs.map Ev.c).length:Nat))=_;rw[List.length_map,wrap64 (by omega)];omega)) rfl ?_))))));iterate 2 refine pE rfl ?_
 refine WO.nil (qs (ab rfl (fun I=>?_) (fun I=>?_)));·exfalso;simp at I <;> omega
 refine W.seq (W.region (pE rfl (pE rfl ?_)));iterate 3 refine pE rfl ?_
 refine WO.nil (qs (ab rfl (fun M=>?_) (fun M=>?_)));·exfalso;simp at M;simp[M] at h4
 refine W.seq (W.region (pE rfl (pE rfl ?_)));iterate 3 refine pE rfl ?_
 refine WO.nil (qs (ab rfl (fun O=>?_) (fun O=>?_)));·exfalso;simp at O;omega
 refine W.skip (be (qs (W.seq (W.region (pE rfl (pE rfl (pu (ao rfl rfl rfl (wx ..) rfl) rfl ?_)))))));refine pE rfl (WO.nil (qs (W.ret (QF.aw trivial rfl ?_))));rfl
end Go.Proofs.YtpiaiiopakafhaaGreatDoor
namespace Go.Proofs.YtpiaiiopakafhaaGreatDoor
open Go.Ab Go.Tb
set_option maxRecDepth 10000
set_option maxHeartbeats 1000000
attribute [local irreducible] W WO Pu QS QB QL QF QV bA CH QE
theorem DO {p:bl} {e:Ev} {r:List Ev} (hp:p.evs=e::r) (h:iO p.evs none=0):0≤e.time:=by
 rw[hp] at h;simp only[iO] at h;by_cases hc:ct e=0;·
  unfold ct at hc;split at hc;·cases hc
  omega
 rw[if_pos hc] at h;exact absurd h hc
theorem ya (I:Int) (e:Ev) (r:List Ev) (h0:0≤e.time):bz Tryz.prog 112 [.ptr 0 0,.ag (bl.c ⟨I,0,0,e::r⟩)] [z2.map A.d] 0 (.d (.v (.bool true))) [z2.map A.d] 0:=by
 refine bz.cX aa (n:=27) (rs:=[.tmp 4]) Tryz.func112 (by kernel_rfl) rfl Tryz.ntmps112 Tryz.results112 rfl rfl fun C hC J=>?_;refine W.seq (W.region (bK rfl rfl rfl (pE rfl (WO.nil (qs (W.seq ?_))))));apply mL aa;(case hb=>rfl);(case hB=>kernel_rfl);·
  refine aJ (ev aa rfl) rfl ?_;refine aJ (ev aa rfl) rfl ?_;refine aJ (ev aa rfl) rfl ?_;refine aJ (ev aa rfl) rfl ?_;iterate 4 refine aJ (ev aa rfl) rfl ?_
  refine aJ (ev aa rfl) rfl ?_;iterate 2 refine aJ (ev aa rfl) rfl ?_
  apply BM;(case hj=>rfl);(case hl=>rfl);·
   refine cS rfl rfl (ev aa rfl) rfl ?_;refine cS rfl rfl (ev aa rfl) rfl ?_;refine cS rfl rfl (indexAddr (l:=e.c) aa rfl rfl rfl rfl rfl rfl (by decide) rfl rfl) rfl ?_;refine cS rfl rfl (ev aa rfl) rfl ?_;refine cS rfl rfl (ev aa rfl) rfl ?_;refine cS rfl rfl (ev aa rfl) rfl ?_;refine cS rfl rfl (ev aa rfl) rfl ?_;refine cS rfl rfl (ev aa rfl) rfl ?_;refine cS rfl rfl (ev aa rfl) rfl ?_;refine cS rfl rfl (ev aa rfl) rfl ?_;iterate 2 refine aJ (ev aa rfl) rfl ?_
   refine CH.nil ?_;refine bg rfl rfl rfl
  iterate 10 refine qU rfl rfl rfl rfl ?_
  iterate 2 refine aJ (ev aa rfl) rfl ?_
  refine CH.nil ?_;refine bg rfl rfl rfl
 refine qs (W.ret (b7.end aa [] trivial rfl rfl rfl rfl ?_ ?_));·exact⟨rfl,trivial⟩
 simp only[norm,aI];simp[h0];rfl
theorem yI (I:Int) (e:Ev) (r:List Ev) (z:Ev) (J:(e::r)[r.length]? = some z) (hl:r.length≤1000):bz Tryz.prog 113 [.ptr 0 0,.ag (bl.c ⟨I,0,0,e::r⟩)] [z2.map A.d] 0 (.tup []) [[.d (ci ((r.length:Int)+1)),.d (ci z.time)]] 0:=by
 refine bz.cX aa (n:=25) (rs:=[]) Tryz.func113 (by kernel_rfl) rfl Tryz.ntmps113 Tryz.results113 rfl rfl fun C hC M=>?_;refine W.seq (W.region (bK rfl rfl rfl (WO.nil (qs (W.seq (W.region ?_))))));iterate 2 refine pE rfl ?_
 refine pE rfl (pE rfl (pE rfl (pE rfl (pu (cU (ev aa rfl) (y:=(r.length:Int)+1) (by show IntKind.i64.wrap ((0:Int)+(((e::r).map Ev.c).length:Nat))=_;rw[List.length_map,List.length_cons,wrap64 (by omega)];omega)) rfl ?_))));iterate 2 refine pE rfl ?_
 refine ar aa rfl rfl rfl rfl rfl rfl rfl rfl (WO.nil (qs (W.region ?_)));iterate 2 refine pE rfl ?_
 refine pE rfl (pE rfl (pE rfl (pE rfl (pu (cU (ev aa rfl) (y:=(r.length:Int)) (by show IntKind.i64.wrap ((((e::r).map Ev.c).length:Nat) - (1:Int))=_;rw[List.length_map,List.length_cons,wrap64 (by omega)];omega)) rfl ?_))));refine pu (indexAddr (l:=z.c) aa rfl rfl rfl rfl rfl rfl (Int.natCast_nonneg _) (aM J) rfl) rfl ?_;refine pE rfl (pE rfl ?_);iterate 2 refine pE rfl ?_
 refine ar aa rfl rfl rfl rfl rfl rfl rfl rfl (WO.nil (b7.end aa [] trivial rfl rfl rfl rfl ?_ ?_));·exact⟨rfl,trivial⟩
 rfl
theorem vE (l:List bl) (k:Nat):((l.take k).map fun p=>p.evs.length).sum≤(l.map fun p=>p.evs.length).sum:=by have h:=congrArg (fun x=>(x.map fun p:bl=>p.evs.length).sum) (List.take_append_drop k l);simp only[List.map_append,List.sum_append] at h;omega
end Go.Proofs.YtpiaiiopakafhaaGreatDoor
namespace Go.Proofs.YtpiaiiopakafhaaGreatDoor
open Go.Ab Go.Tb
set_option maxRecDepth 10000
set_option maxHeartbeats 1000000
attribute [local irreducible] W WO Pu QS QB QL QF QV bA CH QE
theorem yt (t:cf):ay Tryz.prog 107 [.ag t.c] (.d (.v (.int .i64 (l7 t)))) 0:=by
 refine ay.aZ (n:=24) (ts:=[2]) Tryz.func107 (by kernel_rfl) rfl Tryz.ntmps107 Tryz.results107 rfl rfl fun C hC M=>?_;refine W.seq (W.region (bK rfl rfl rfl (pE rfl (WO.nil (qs ?_)))));iterate 2 refine W.seq ?_
 apply aG;(case hb=>rfl);·repeat' first | refine bg rfl rfl rfl | refine aH rfl rfl ?_ | refine aE rfl rfl rfl rfl ?_ | refine pE rfl ?_ | refine WO.nil ?_ | (apply aP;(case hj=>rfl);(case hl=>rfl))
 refine qs (ab rfl (fun I=>?_) (fun I=>?_));·
  have J:l7 t=2:=by unfold l7;rw[if_pos (by simp at I;omega)]
  refine W.seq (W.region (pE rfl (WO.nil (qs (W.ret (an (QF.aw trivial rfl ?_)))))));simp only[norm,aI,J]
 have J:l7 t=bE t.name:=by unfold l7;rw[if_neg (by simp at I;omega)]
 refine W.skip (qs (W.seq (W.region (pE rfl (pE rfl (pu (ao rfl rfl rfl (pb ..) rfl) rfl ?_))))));refine pE rfl (WO.nil (qs (W.ret (QF.aw trivial rfl ?_))));simp only[norm,aI,J]
theorem Bk (ts:List cf):ay Tryz.prog 67 [.ag (mA ts)] (.d (.v (.int .i64 (fA ts)))) 0:=by
 refine ay.aZ (n:=62) (ts:=[2]) Tryz.func67 (by kernel_rfl) rfl Tryz.ntmps67 Tryz.results67 rfl rfl fun C hC hG=>?_;refine W.seq (W.region (bK rfl rfl rfl (pE rfl (WO.nil (qs (W.seq (W.block (W.seq (W.region (pE rfl (pE rfl ?_)))))))))));iterate 3 refine pE rfl ?_
 refine WO.nil (qs (ab rfl (fun M=>?_) (fun M=>?_)));·
  have I:fA ts=8:=by simp at M;unfold fA;rw[if_pos M]
  refine W.seq (W.region (pE rfl (WO.nil (qs (W.ret (aC (an (QF.aw trivial rfl ?_))))))));simp only[norm,aI,I]
 have aj:ts≠[]:=by simpa using M
 refine W.seq (W.region (pE rfl (pE rfl ?_)));iterate 3 refine pE rfl ?_
 refine WO.nil (qs (ab rfl (fun N=>?_) (fun N=>?_)));·
  have I:fA ts=7:=by simp at N;unfold fA;rw[if_neg aj,if_pos (by omega)]
  refine W.seq (W.region (pE rfl (WO.nil (qs (W.ret (aC (an (QF.aw trivial rfl ?_))))))));simp only[norm,aI,I]
 have hT:fA ts=nE ts []:=by simp at N;unfold fA;rw[if_neg aj,if_neg (by omega)]
 have hlen:ts.length≤maxLen:=by simp at N;simp only[maxLen];omega
 refine W.skip (be (qs (W.seq (W.region (mkMap rfl ?_)))));refine pE rfl (WO.nil (qs ?_));iterate 2 refine W.seq ?_
 refine W.region (pE rfl (pE rfl ?_));iterate 2 refine pE rfl ?_
 refine WO.nil (qs (W.block ?_))
 refine W.bh (ι:={x:Nat // match x with | k=>k≤ts.length∧((ts.take k).map cf.id).Nodup∧nE (ts.drop k) ((ts.take k).map cf.id)=fA ts})
  (fun x=>match x.1 with | k=>[(1,.ptr 0 0),(3,.mp 1 (eA ik zk (iK (ts.take k) cf.id))),(24,.d (.v (.int .i64 ((k:Nat):Int))))]) [(22,_),(23,_)]
  (fun x=>match x.1 with | k=>[(0,(mA ts).map A.d)]) [] [1] 2 (fun x=>match x.1 with | k=>ts.length - k)
  [0,1] ⟨0,?_⟩ rfl ?_ ⟨rfl,rfl,rfl,rfl,trivial⟩ ?_ trivial rfl ?_
 ·exact⟨Nat.zero_le _,List.nodup_nil,hT.symm⟩
 ·repeat' first | exact trivial | refine⟨rfl,?_⟩
 ·repeat' first | exact trivial | refine⟨rfl,?_⟩
 rintro⟨k,hk,O,J⟩;show W _ _ _ _ _ ⟨[(1,.ptr 0 0),(3,.mp 1 (eA ik zk (iK (ts.take k) cf.id))),(24,.d (.v (.int .i64 ((k:Nat):Int)))),(22,_),(23,_)],[(0,(mA ts).map A.d)],[1],2⟩;refine W.seq (W.region (pE rfl (WO.nil (qs (W.seq (bu (l:=ts) (k:=k) rfl (by simp[Ex.aF,au]) hk (fun t U hd X=>?_) (fun he hd=>?_)))))));·
  rw[hd,nE] at J;have a8:=tI (f:=cf.id) (ts.take k) t.id;refine W.skip (qs (W.seq (W.block (W.seq (W.region (pu (indexAddr aa rfl rfl rfl rfl rfl rfl (Int.natCast_nonneg _) (aM U) rfl) rfl ?_))))));refine pE rfl (aQ aa rfl rfl rfl (ar aa rfl rfl rfl rfl rfl rfl rfl rfl (WO.nil (qs ?_))));iterate 2 refine W.seq ?_
  refine W.region (pE rfl (pu (ao rfl rfl rfl (yt t) rfl) rfl ?_));refine pE rfl (WO.nil (qs (W.seq (W.region ?_))));iterate 2 refine pE rfl ?_
  refine WO.nil (qs (ab rfl (fun Z=>?_) (fun Z=>?_)));·
   have I:fA ts=l7 t:=by rw[←J,if_pos (by simpa using Z)]
   refine W.seq (W.region ?_);iterate 2 refine pE rfl ?_
   refine WO.nil (qs (W.ret (an (aC (an (cn (aC (an (QF.aw trivial rfl ?_)))))))));simp only[norm,aI,I]
  rw[if_neg (by simpa using Z)] at J;refine W.skip (qs ?_);iterate 2 refine W.seq ?_
  refine W.region ?_;iterate 2 refine pE rfl ?_
  refine pE rfl (pu (lB (kf:=ik) (vf:=zk) (l:=iK (ts.take k) cf.id) (a:=t.id) (z:=false) (r:=zk (((ts.take k).map cf.id).any fun x=>decide (x=t.id))) aa rfl rfl rfl rfl rfl (gd (aa.fw rfl rfl)) rfl rfl rfl (fun _ _=>.v _ rfl) (by rw[nt];exact O) (by rw[a8])) rfl ?_);refine WO.nil (qs (ab rfl (fun ad=>?_) (fun ad=>?_)));·
   have I:fA ts=4:=by rw[←J,if_pos ad]
   refine W.seq (W.region (pE rfl (WO.nil (qs (W.ret (an (aC (an (cn (aC (an (QF.aw trivial rfl ?_))))))))))));simp only[norm,aI,I]
  have ai:¬ (((ts.take k).map cf.id).any fun x=>decide (x=t.id))=true:=by rw[show(((ts.take k).map cf.id).any fun x=>decide (x=t.id))=false from ad];simp
  rw[if_neg ai] at J;have a1:(ts.take (k+1)).map cf.id=(ts.take k).map cf.id++[t.id]:=by rw[List.take_add_one,U,List.map_append];rfl
  have b0:t.id∉(ts.take k).map cf.id:=by intro q;exact ai (List.any_eq_true.2 ⟨_,q,by simp⟩)
  refine W.skip (qs (W.region ?_));iterate 2 refine pE rfl ?_
  refine pE rfl ?_;first | refine rb (kf:=ik) (vf:=zk) (l:=iK (ts.take k) cf.id) (a:=t.id) (y:=true) aa 3 rfl rfl rfl rfl rfl rfl rfl (gd (aa.fw rfl rfl)) rfl rfl (by rw[nt];exact O) (by rw[Bg ai U]) rfl ?_
  refine WO.nil (be (qs (W.region ?_)));iterate 2 refine pE rfl ?_
  refine WO.nil (W.bt [0,3] ⟨k+1,?_⟩ ?_ rfl ?_ ⟨rfl,rfl,rfl,rfl,trivial⟩ ?_ trivial rfl);·exact⟨X,by rw[a1,List.nodup_append];exact⟨O,by simp,fun a ha b hb=>by simp at hb;subst hb;rintro rfl;exact b0 ha⟩,by rw[a1];exact J⟩
  ·dsimp only;omega
  ·repeat' first | exact trivial | refine⟨rfl,?_⟩ | refine⟨aL (by assumption) (by assumption),?_⟩
  repeat' first | exact trivial | refine⟨rfl,?_⟩
 have I:fA ts=0:=by rw[←J,hd];rfl
 refine W.exit (aW (aT (aS (qs ?_))));iterate 2 refine W.seq ?_
 refine W.region (pE rfl (pE rfl (pE rfl (pE rfl (pu (ao rfl rfl rfl Bi rfl) rfl ?_)))));refine pE rfl (WO.nil (qs (W.seq (W.region ?_))));iterate 2 refine pE rfl ?_
 refine WO.nil (qs (ab rfl (fun a6=>?_) (fun a6=>?_)));·exfalso;simp at a6
 refine W.skip (qs ?_);iterate 2 refine W.seq ?_
 refine W.region (pE rfl (pE rfl ?_));iterate 2 refine pE rfl ?_
 refine WO.nil (qs (W.block ?_))
 refine W.bh (ι:={x:Nat // match x with | k=>k≤ts.length})
  (fun x=>match x.1 with | k=>[(1,.ptr 0 0),(52,.d (.v (.int .i64 ((k:Nat):Int))))]) [(50,_),(51,_)]
  (fun x=>match x.1 with | k=>[(0,(mA ts).map A.d)]) [] [] 1 (fun x=>match x.1 with | k=>ts.length - k)
  [0] ⟨0,?_⟩ rfl ?_ ⟨rfl,rfl,rfl,rfl,trivial⟩ ?_ trivial rfl ?_
 ·exact Nat.zero_le _
 ·repeat' first | exact trivial | refine⟨rfl,?_⟩
 ·repeat' first | exact trivial | refine⟨rfl,?_⟩
 rintro⟨k,hk⟩;show W _ _ _ _ _ ⟨[(1,.ptr 0 0),(52,.d (.v (.int .i64 ((k:Nat):Int)))),(50,_),(51,_)],[(0,(mA ts).map A.d)],[],1⟩;refine W.seq (W.region (pE rfl (WO.nil (qs (W.seq (bu (l:=ts) (k:=k) rfl (by simp[Ex.aF,au]) hk (fun t U hd X=>?_) (fun he hd=>?_)))))));·
  refine W.skip (qs (W.seq (W.block (W.seq (W.region (pu (indexAddr aa rfl rfl rfl rfl rfl rfl (Int.natCast_nonneg _) (aM U) rfl) rfl ?_))))));refine pE rfl (aQ aa rfl rfl rfl (ar aa rfl rfl rfl rfl rfl rfl rfl rfl (WO.nil (qs (W.seq (W.region (pE rfl (pE rfl (pE rfl (pu (ao rfl rfl rfl (C9 t) rfl) rfl ?_))))))))));refine pE rfl (WO.nil (qs (ab rfl (fun a7=>?_) (fun a7=>?_))));·exfalso;simp at a7
  refine W.skip (be (qs (W.region ?_)));iterate 2 refine pE rfl ?_
  refine WO.nil (W.bt [0] ⟨k+1,?_⟩ ?_ rfl ?_ ⟨rfl,rfl,rfl,rfl,trivial⟩ ?_ trivial rfl);·exact X
  ·dsimp only;omega
  ·repeat' first | exact trivial | refine⟨rfl,?_⟩ | refine⟨aL (by assumption) (by assumption),?_⟩
  repeat' first | exact trivial | refine⟨rfl,?_⟩
 refine W.exit (aW (aT (aS (qs (W.seq (W.region (pE rfl (WO.nil (qs (W.ret (QF.aw trivial rfl ?_)))))))))));simp only[norm,aI,I]
end Go.Proofs.YtpiaiiopakafhaaGreatDoor
namespace Go.Proofs.YtpiaiiopakafhaaGreatDoor
open Go.Ab Go.Tb
set_option maxRecDepth 10000
set_option maxHeartbeats 1000000
attribute [local irreducible] W WO Pu QS QB QL QF QV bA CH QE
theorem AN (ts:List cf) (ps:List bl) (ok:Gl ts) (N:sZ ts ps):ay Tryz.prog 68 [.ag (mA ts),.d (.sl (ps.map bl.c))] (.d (.v (.int .i64 (eT ps)))) 0:=by
 obtain⟨ids,I⟩:∃ ids,ids=ts.map cf.id:=⟨_,rfl⟩;have M:ids.Nodup:=I▸ok.2;have ai:(ps.map bl.thread).Sublist ids:=I▸N.1;have cl:(ps.map bl.thread).Nodup:=M.sublist ai;refine ay.aZ (n:=63) (ts:=[4]) Tryz.func68 (by kernel_rfl) rfl Tryz.ntmps68 Tryz.results68 rfl rfl fun C hC hG=>?_;refine W.seq (W.region (bK rfl rfl rfl (pE rfl (WO.nil (qs (W.seq (W.region (Ff rfl ?_))))))));refine pE rfl (WO.nil (qs ?_));iterate 2 refine W.seq ?_
 refine W.region (pE rfl (pE rfl ?_));iterate 2 refine pE rfl ?_
 refine WO.nil (qs (W.block (W.len (t:=16) rfl rfl (fun hlen=>?_))));try simp only[List.length_map,Ex.aF] at hlen
 refine W.bh (ι:={x:Nat // match x with | k=>k≤ts.length})
  (fun x=>match x.1 with | k=>[(1,.d (.sl (ps.map bl.c))),(5,.mq 1 (iA ik (oT ids k))),(18,.d (.v (.int .i64 ((k:Nat):Int))))]) [(16,_),(17,_)]
  (fun x=>match x.1 with | k=>[(0,(mA ts).map A.d)]) [] [1] 2 (fun x=>match x.1 with | k=>ts.length - k)
  [0,1] ⟨0,?_⟩ rfl ?_ ⟨rfl,rfl,rfl,rfl,trivial⟩ ?_ trivial rfl ?_
 ·exact Nat.zero_le _
 ·repeat' first | exact trivial | refine⟨rfl,?_⟩
 ·repeat' first | exact trivial | refine⟨rfl,?_⟩
 rintro⟨k,hk⟩;show W _ _ _ _ _ ⟨[(1,.d (.sl (ps.map bl.c))),(5,.mq 1 (iA ik (oT ids k))),(18,.d (.v (.int .i64 ((k:Nat):Int)))),(16,_),(17,_)],[(0,(mA ts).map A.d)],[1],2⟩;refine W.seq (W.region (pE rfl (WO.nil (qs (W.seq (bu (l:=ts) (k:=k) rfl (by simp[Ex.aF,au]) hk (fun t J hd U=>?_) (fun he hd=>?_)))))));·
  have aj:ids[k]? = some t.id:=by rw[I];simp[J]
  refine W.skip (qs (W.seq (W.block (W.seq (W.region (pu (indexAddr aa rfl rfl rfl rfl rfl rfl (Int.natCast_nonneg _) (aM J) rfl) rfl ?_))))));refine pE rfl (aQ aa rfl rfl rfl (ar aa rfl rfl rfl rfl rfl rfl rfl rfl (WO.nil (qs (W.region ?_)))));iterate 2 refine pE rfl ?_
  refine pE rfl (pu (build aa rfl rfl rfl rfl) rfl ?_);refine bK rfl rfl rfl ?_;first | refine Dg (kf:=ik) (l:=oT ids k) (a:=t.id) (y:=z2) aa 5 rfl rfl rfl rfl rfl rfl rfl rfl (gd (aa.fw rfl rfl)) rfl rfl (by rw[uT];exact M.sublist (List.take_sublist _ _)) (by rw[uT];exact oA M aj) rfl rfl (by rw[B6 aj]) rfl ?_
  refine WO.nil (be (qs (W.region ?_)));iterate 2 refine pE rfl ?_
  refine WO.nil (W.bt [0,5] ⟨k+1,?_⟩ ?_ rfl ?_ ⟨rfl,rfl,rfl,rfl,trivial⟩ ?_ trivial rfl);·exact U
  ·dsimp only;omega
  ·repeat' first | exact trivial | refine⟨rfl,?_⟩ | refine⟨aL (by assumption) (by assumption),?_⟩
  repeat' first | exact trivial | refine⟨rfl,?_⟩
 have hq:oT ids k=mB ids []:=by rw[C4];exact Da (by rw[I,List.length_map];exact he)
 rw[hq];refine W.exit (aW (aT (aS (qs (W.seq (W.region (pE rfl (WO.nil (qs ?_)))))))));iterate 2 refine W.seq ?_
 refine W.region ?_;iterate 3 refine pE rfl ?_
 refine WO.nil (qs (W.block (W.len (t:=28) rfl rfl (fun hlen=>?_))));try simp only[List.length_map,Ex.aF] at hlen
 refine W.bh (ι:={x:Nat×Nat // match x with | (k,c)=>k≤ps.length∧eT (ps.drop k)=eT ps∧c=((ps.take k).map fun p=>p.evs.length).sum})
  (fun x=>match x.1 with | (k,c)=>[(5,.mq 1 (iA ik (mB ids ((ps.take k).map bl.thread)))),(8,.d (.v (.int .i64 ((c:Nat):Int)))),(30,.d (.v (.int .i64 ((k:Nat):Int))))]) [(28,_),(29,_)]
  (fun x=>match x.1 with | (k,c)=>[(0,(mA ts).map A.d)]) [] [1] 2 (fun x=>match x.1 with | (k,c)=>ps.length - k)
  [0,1] ⟨(0,0),?_⟩ rfl ?_ ⟨rfl,rfl,rfl,rfl,trivial⟩ ?_ trivial rfl ?_
 ·exact⟨Nat.zero_le _,rfl,rfl⟩
 ·repeat' first | exact trivial | refine⟨rfl,?_⟩
 ·repeat' first | exact trivial | refine⟨rfl,?_⟩
 rintro⟨⟨k,c⟩,hk,hI,hc⟩;show W _ _ _ _ _ ⟨[(5,.mq 1 (iA ik (mB ids ((ps.take k).map bl.thread)))),(8,.d (.v (.int .i64 ((c:Nat):Int)))),(30,.d (.v (.int .i64 ((k:Nat):Int)))),(28,_),(29,_)],[(0,(mA ts).map A.d)],[1],2⟩;refine W.seq (W.region (pE rfl (WO.nil (qs (W.seq (bu (l:=ps) (k:=k) rfl (by simp[Ex.aF,au]) hk (fun p J hd U=>?_) (fun he hd=>?_)))))));·
  obtain⟨a1,a6,X,Z⟩:=N.2.1 p (List.mem_of_getElem? J);obtain⟨ix,O⟩:∃ ix:Nat,ids[ix]? = some p.thread:=List.mem_iff_getElem?.1 (ai.subset (List.mem_map.2 ⟨p,List.mem_of_getElem? J,rfl⟩));have a7:p.thread∉(ps.take k).map bl.thread:=mU cl J;have a8:(ps.take (k+1)).map bl.thread=(ps.take k).map bl.thread++[p.thread]:=by rw[List.take_add_one,J,List.map_append];rfl
  have b0:0≤p.thread∧p.thread≤1000000000000000:=by have:=List.mem_of_getElem? O;rw[I] at this;obtain⟨t,ht,e⟩:=List.mem_map.1 this;have:=ok.1 t ht;omega
  obtain⟨th,se,lo,evs⟩:=p;simp only at a1 a6 X Z b0 O a7 a8;subst a1;subst a6;obtain⟨e,r,cq⟩:∃ e r,evs=e::r:=by
   cases evs with
   | nil=>simp at X
   | cons e r=>exact⟨e,r,rfl⟩
  subst cq;have cx:c≤20000:=hc▸Nat.le_trans (vE ps k) N.2.2;have cy:r.length≤1000:=by simp at Z;omega
  obtain⟨z,hz⟩:∃ z,(e::r)[r.length]? = some z:=⟨(e::r)[r.length],by simp⟩;refine W.skip (qs (W.seq (W.block (W.seq (W.region (pu (indexAddr aa rfl rfl rfl rfl rfl rfl (Int.natCast_nonneg _) (aM J) rfl) rfl ?_))))));refine pE rfl (aQ aa rfl rfl rfl (ar aa rfl rfl rfl rfl rfl rfl rfl rfl (WO.nil (qs ?_))));iterate 2 refine W.seq ?_
  refine W.region (pE rfl (pu (ao rfl rfl rfl (AK ⟨th,0,0,e::r⟩ b0 rfl rfl ⟨X,Z⟩) rfl) rfl ?_));refine pE rfl (WO.nil (qs (W.seq (W.region ?_))));iterate 2 refine pE rfl ?_
  refine WO.nil (qs (ab rfl (fun ad=>?_) (fun ad=>?_)));·
   have hg:eT ps=iO (e::r) none:=by rw[←hI,hd,eT];exact if_pos (by simpa using ad)
   refine W.seq (W.region ?_);iterate 2 refine pE rfl ?_
   refine WO.nil (qs (W.ret (an (aC (an (cn (aC (an (QF.aw trivial rfl ?_)))))))));rw[hg];rfl
  have b2:iO (e::r) none=0:=by simpa using ad
  have c1:0≤e.time:=DO (p:=⟨th,0,0,e::r⟩) rfl b2;refine W.skip (qs (W.seq (W.region ?_)));iterate 2 refine pE rfl ?_
  refine pE rfl (Cc (kf:=ik) (l:=mB ids ((ps.take k).map bl.thread)) (a:=th) (y:=z2) aa 5 ix rfl rfl rfl rfl rfl rfl rfl rfl (gd (aa.fw rfl rfl)) rfl rfl rfl rfl rfl (by rw[Cd];exact M) (D4 O a7) (by rw[Dt M O,←a8]) rfl ?_);iterate 5 refine pE rfl ?_
  refine WO.nil (qs ?_);iterate 2 refine W.seq ?_
  refine W.region ?_;iterate 2 refine pE rfl ?_
  refine WO.nil (qs (ab rfl (fun b3=>?_) (fun b3=>?_)));·exfalso;simp at b3
  refine W.skip (qs ?_);iterate 2 refine W.seq ?_
  refine W.region (pE rfl (pE rfl (aK [5] [] rfl rfl rfl rfl rfl ((ya th e r c1)) rfl rfl (by rfl) (by rfl) rfl rfl rfl rfl ?_)));refine pE rfl (WO.nil (qs (ab rfl (fun ch=>?_) (fun ch=>?_))));·exfalso;simp at ch
  refine W.skip (qs (W.seq (W.region (pE rfl (pE rfl (aK [5] [] rfl rfl rfl rfl rfl ((yI th e r z hz cy)) rfl rfl (by rfl) (by rfl) rfl rfl rfl rfl ?_))))));refine WO.nil (qs (W.region ?_));iterate 2 refine pE rfl ?_
  refine pE rfl (pE rfl (pu (cU (ev aa rfl) (y:=((c+(r.length+1):Nat):Int)) (by show IntKind.i64.wrap ((c:Int)+(((e::r).map Ev.c).length:Nat))=_;rw[List.length_map,List.length_cons,wrap64 (by omega)];omega)) rfl ?_));refine pE rfl (WO.nil (be (qs (W.region ?_))));iterate 2 refine pE rfl ?_
  refine WO.nil (W.bt [0,3] ⟨(k+1,c+(r.length+1)),?_⟩ ?_ rfl ?_ ⟨rfl,rfl,rfl,rfl,trivial⟩ ?_ trivial rfl);·exact⟨U,by rw[←hI,hd,eT,if_neg (by simpa using b2)],by rw[hc,List.take_add_one,J];simp⟩
  ·dsimp only;omega
  ·repeat' first | exact trivial | refine⟨rfl,?_⟩ | refine⟨aL (by assumption) (by assumption),?_⟩
  repeat' first | exact trivial | refine⟨rfl,?_⟩
 have hg:eT ps=0:=by rw[←hI,hd];rfl
 have cx:c≤20000:=hc▸Nat.le_trans (vE ps k) N.2.2;refine W.exit (aW (aT (aS (qs ?_))));iterate 2 refine W.seq ?_
 refine W.region ?_;iterate 2 refine pE rfl ?_
 refine WO.nil (qs (ab rfl (fun cj=>?_) (fun cj=>?_)));·exfalso;simp at cj;omega
 refine W.skip (qs (W.seq (W.region (pE rfl (WO.nil (qs (W.ret (QF.aw trivial rfl ?_))))))));rw[hg];rfl
end Go.Proofs.YtpiaiiopakafhaaGreatDoor
namespace Go.Proofs.YtpiaiiopakafhaaGreatDoor
open Go.Ab Go.Tb
set_option maxRecDepth 10000
set_option maxHeartbeats 1000000
attribute [local irreducible] W WO Pu QS QB QL QF QV bA CH QE
abbrev Gs (th:Int):List D:=[ci th,ci 0,ci 0,.v (.slice none 0 0)]
theorem Dx (J:Int) (evs:List Ev) (h0:0 < evs.length) (h1:evs.length≤1000):bz Tryz.prog 69 [.xs 0 [Gs J],.d (.sl (evs.map Ev.c))] [] 1 (.own 0 [bl.c ⟨J,0,0,evs⟩]) [] 1:=by
 refine bz.cX aa (n:=54) (rs:=[.tmp 4]) Tryz.func69 (by kernel_rfl) rfl Tryz.ntmps69 Tryz.results69 rfl rfl fun C hC X=>?_;refine W.seq (W.region (pE rfl (WO.nil (qs (W.seq (W.block ?_))))))
 refine W.bh (ι:={x:Nat // match x with | j=>j≤1})
  (fun x=>match x.1 with | j=>[(0,.xs 0 [[ci J,ci 0,ci 0,Gq evs j]]),(1,.d (.sl ((CM evs j).map Ev.c)))]) []
  (fun x=>match x.1 with | j=>[]) [] [0] 1 (fun x=>match x.1 with | j=>1 - j)
  [0] ⟨0,?_⟩ rfl ?_ trivial ?_ trivial rfl ?_
 ·exact Nat.zero_le _
 ·repeat' first | exact trivial | refine⟨rfl,?_⟩
 ·repeat' exact trivial
 rintro⟨j,hj⟩;show W _ _ _ _ _ ⟨[(0,.xs 0 [[ci J,ci 0,ci 0,Gq evs j]]),(1,.d (.sl ((CM evs j).map Ev.c)))],[],[0],1⟩;iterate 2 refine W.seq ?_
 refine W.region ?_;iterate 3 refine pE rfl ?_
 refine WO.nil (qs (ab rfl (fun I=>?_) (fun I=>?_)));·
  have N:j=0:=by
   match j,hj with
   | 0,_=>rfl
   | 1,_=>exfalso;simp[CM] at I
  subst N;refine W.skip (qs (W.block (W.seq (W.region ?_))));iterate 2 refine pE rfl ?_
  refine pu (Bl aa rfl rfl rfl rfl) rfl ?_;refine pu (cU (ev aa rfl) (y:=0) (by rfl)) rfl ?_;refine pu (um (l:=Gs J) aa rfl rfl rfl rfl rfl rfl (by decide) rfl rfl) rfl ?_;refine pE rfl (WO.nil (qs (W.seq (W.region (pE rfl (pu (yU rfl rfl) rfl ?_))))));refine pu (mE aa rfl rfl rfl rfl rfl rfl) rfl ?_;refine pu (tY aa rfl rfl rfl) rfl ?_;refine pE rfl (pu (cU (ev aa rfl) (y:=1000) (by rfl)) rfl ?_);iterate 2 refine pE rfl ?_
  refine pu (cU (ev aa rfl) (y:=(evs.length:Int)) (by show(if (((evs.map Ev.c).length:Nat):Int) < 1000 then (((evs.map Ev.c).length:Nat):Int) else 1000)=_;rw[List.length_map];split <;> omega)) rfl ?_;refine pE rfl (WO.nil (qs ?_));iterate 2 refine W.seq ?_
  refine W.region ?_;iterate 2 refine pE rfl ?_
  refine WO.nil (qs (ab rfl (fun M=>?_) (fun M=>?_)));·exfalso;have:=of_decide_eq_true M;omega
  refine W.skip (qs (W.seq ?_));apply W.jJ aa 9 8;(case hB=>kernel_rfl);(case h1=>rfl);(case h2=>rfl);refine' eY ?p1_1 (ev aa rfl) rfl rfl rfl rfl rfl ?h_1;case' h_1=>skip
  refine' eY ?p1_2 (ev aa rfl) rfl rfl rfl rfl rfl ?h_2;case' h_2=>skip
  refine' eY ?p1_3 (yU rfl rfl) rfl rfl rfl rfl rfl ?h_3;case' h_3=>skip
  refine' eY ?p1_4 (mE aa rfl rfl rfl rfl rfl rfl) rfl rfl rfl rfl rfl ?h_4;case' h_4=>skip
  refine' j6 (tY aa rfl rfl rfl) rfl rfl rfl rfl rfl ?h_5;case' h_5=>skip
  refine' eY ?p1_6 (ev aa rfl) rfl rfl rfl rfl rfl ?h_6;case' h_6=>skip
  refine' eY ?p1_7 (ev aa rfl) rfl rfl rfl rfl rfl ?h_7;case' h_7=>skip
  refine' j6 (vF (fn:=Ev.c) (l:=evs) (i:=0) (j:=(evs.length:Int)) (r:=evs) aa rfl rfl rfl rfl rfl (fun _=>rfl) rfl rfl (by decide) (by omega) (by omega) (by rw[show((evs.length:Int)).toNat=evs.length from rfl,List.take_length];rfl)) rfl rfl rfl rfl rfl ?h_8;case' h_8=>skip
  refine' Eu (fun g=>?e_9) rfl rfl rfl ?h_9;case e_9=>refine yk (es2:=evs.map Ev.c) aa rfl rfl rfl rfl rfl rfl rfl rfl rfl (fun x U=>by obtain⟨y,_,rfl⟩:=List.mem_map.1 U;rfl) (by rw[List.length_map];show evs.length*72≤140737488355328;omega) ?_;refine WO.nil ?_;exact⟨rfl,rfl⟩
  case' h_9=>skip
  case p1_1=>exact(ev aa rfl)
  case p1_2=>exact(ev aa rfl)
  case p1_3=>exact(yU rfl rfl)
  case p1_4=>exact(mE aa rfl rfl rfl rfl rfl rfl)
  case p1_6=>exact(ev aa rfl)
  case p1_7=>exact(ev aa rfl)
  refine CC.nil ?_;refine pu (yU rfl rfl) rfl ?_;refine pu (mE aa rfl rfl rfl rfl rfl rfl) rfl ?_;refine uE aa 0 rfl rfl rfl rfl rfl rfl rfl rfl rfl rfl rfl rfl rfl ?_;refine WO.nil (qs (W.region ?_));iterate 2 refine pE rfl ?_
  refine pu (vF (fn:=Ev.c) (l:=evs) (i:=(evs.length:Int)) (j:=(evs.length:Int)) (r:=[]) aa rfl rfl rfl rfl rfl (fun _=>rfl) rfl rfl (by omega) (by omega) (by omega) (by show(evs.take evs.length).drop evs.length=[];rw[List.take_length,List.drop_length])) rfl ?_;refine pE rfl (WO.nil (be (W.bt [2] ⟨1,?_⟩ ?_ rfl ?_ trivial ?_ trivial rfl)));·decide
  ·dsimp only;omega
  ·repeat' first | exact trivial | refine⟨rfl,?_⟩
  repeat' exact trivial
 have O:j=1:=by
  match j,hj with
  | 0,_=>exfalso;have I:=of_decide_eq_false I;rw[List.length_map] at I;simp only[CM] at I;omega
  | 1,_=>rfl
 subst O;refine W.exit (aW (aT (aS (qs (W.seq (W.region ?_))))));iterate 2 refine pE rfl ?_
 refine WO.nil (qs (D1 4 rfl rfl rfl rfl ?_));refine W.ret (b7.end aa [1] trivial rfl rfl rfl rfl ?_ ?_);·trivial
 rfl
end Go.Proofs.YtpiaiiopakafhaaGreatDoor
namespace Go.Proofs.YtpiaiiopakafhaaGreatDoor
open Go.Ab Go.Tb
set_option maxRecDepth 10000
set_option maxHeartbeats 1000000
attribute [local irreducible] W WO Pu QS QB QL QF QV bA CH QE
abbrev uz:D→D:=fun d=>d
def iC (l:List bl):List (Int×D):=l.map fun p=>(p.thread,.sl [p.c])
theorem kj (l:List bl):(iC l).map (·.1)=l.map bl.thread:=by unfold iC;rw[List.map_map];rfl
theorem zS {l:List bl} {k:Nat} {p:bl} (I:(l.map bl.thread).Nodup) (h:l[k]? = some p):cH (iC (l.take k)) p.thread (.sl [p.c])=iC (l.take (k+1)):=by
 rw[iW];·
  unfold iC;rw[List.take_add_one,h,List.map_append];rfl
 intro q J e;have:=mU I h;rw[←kj] at this;exact this (List.mem_map.2 ⟨q,J,e⟩)
theorem Ap {l:List bl} {k:Nat} {p:bl} (I:(l.map bl.thread).Nodup) (h:l[k]? = some p):(bT (iC (l.take k)) p.thread).getD (.v (.slice none 0 0))=.v (.slice none 0 0):=by rw[qz];rfl;intro q J e;have:=mU I h;rw[←kj] at this;exact this (List.mem_map.2 ⟨q,J,e⟩)
end Go.Proofs.YtpiaiiopakafhaaGreatDoor
namespace Go.Proofs.YtpiaiiopakafhaaGreatDoor
open Go.Ab Go.Tb
set_option maxRecDepth 10000
set_option maxHeartbeats 1000000
attribute [local irreducible] W WO Pu QS QB QL QF QV bA CH QE
theorem AT (l:List bl) (a:Int):(bT (iC l) a).getD (.v (.slice none 0 0))=match l.find? fun p=>decide (p.thread=a) with | some p=>.sl ([p].map bl.c) | none=>.v (.slice none 0 0):=by
 induction l with
 | nil=>rfl
 | cons p r I=>
  show(bT ((p.thread,D.sl [p.c])::iC r) a).getD _=_;rw[gr,List.find?_cons];by_cases e:p.thread=a;·rw[if_pos e];simp[e]
  rw[if_neg e,I];simp[e]
theorem zL (ts:List cf) (ps:List bl) (N:sZ ts ps):ay Tryz.prog 22 [.ag (mA ts),.d (.sl (ps.map bl.c))] (.tup [.ag (e7 ts ps).1.c,.d (ci (e7 ts ps).2)]) 0:=by
 refine ay.cX aa (n:=84) (rs:=[.cell 4 30,.tmp 5]) Tryz.func22 (by kernel_rfl) rfl Tryz.ntmps22 Tryz.results22 rfl fun C hC hG=>?_;refine W.seq (W.region (bK rfl rfl rfl (aQ aa rfl rfl rfl (pE rfl (WO.nil (qs ?_))))));iterate 2 refine W.seq ?_
 refine W.region (pE rfl (pu (ao rfl rfl rfl ((Bk _)) rfl) rfl ?_));refine pE rfl (WO.nil (qs (W.seq (W.region ?_))));iterate 2 refine pE rfl ?_
 refine WO.nil (qs (ab rfl (fun O=>?_) (fun O=>?_)));·
  have U:e7 ts ps=(jD,fA ts):=by unfold e7;rw[if_pos (by simpa using O)]
  refine W.seq (W.region (pu (build aa rfl rfl rfl rfl) rfl ?_));refine gf 19 rfl rfl rfl ?_;refine pE rfl (ar aa rfl rfl rfl rfl rfl rfl rfl rfl (pE rfl (WO.nil (qs (W.ret (an (QV.aw aa trivial rfl ?_)))))));rw[U];rfl
 have h0:fA ts=0:=by simpa using O
 obtain⟨ok,_,cl⟩:=vg h0;have X:(ps.map bl.thread).Nodup:=ok.2.sublist N.1;refine W.skip (qs ?_);iterate 2 refine W.seq ?_
 refine W.region (pE rfl (pE rfl (pu (ao rfl rfl rfl ((AN _ _ (by assumption) (by assumption))) rfl) rfl ?_)));refine pE rfl (WO.nil (qs (W.seq (W.region ?_))));iterate 2 refine pE rfl ?_
 refine WO.nil (qs (ab rfl (fun Z=>?_) (fun Z=>?_)));·
  have U:e7 ts ps=(jD,eT ps):=by unfold e7;rw[if_neg (by simp[h0]),if_pos (by simpa using Z)]
  refine W.seq (W.region (pu (build aa rfl rfl rfl rfl) rfl ?_));refine gf 26 rfl rfl rfl ?_;refine pE rfl (ar aa rfl rfl rfl rfl rfl rfl rfl rfl (pE rfl (WO.nil (qs (W.ret (an (QV.aw aa trivial rfl ?_)))))));rw[U];rfl
 have U:e7 ts ps=(⟨ts,dS,ps⟩,0):=by unfold e7;rw[if_neg (by simp[h0]),if_neg (by simpa using Z)]
 refine W.skip (qs (W.seq (W.region (mkMap rfl ?_))));refine pE rfl (WO.nil (qs ?_));iterate 2 refine W.seq ?_
 refine W.region ?_;iterate 3 refine pE rfl ?_
 refine WO.nil (qs (W.block (W.len (t:=29) rfl rfl (fun hlen=>?_))));try simp only[List.length_map,Ex.aF] at hlen
 refine W.bh (ι:={x:Nat // match x with | k=>k≤ps.length})
  (fun x=>match x.1 with | k=>[(2,.ptr 0 0),(4,.ptr 1 0),(8,.mp 2 (eA ik uz (iC (ps.take k)))),(31,.d (.v (.int .i64 ((k:Nat):Int))))]) [(29,_),(30,_)]
  (fun x=>match x.1 with | k=>[(0,(mA ts).map A.d),(1,[.d (.v (.slice none 0 0)),.d (.v (.slice none 0 0)),.d (.v (.slice none 0 0)),.d (.v (.slice none 0 0))])]) [] [2] 3 (fun x=>match x.1 with | k=>ps.length - k)
  [0,1,2] ⟨0,?_⟩ rfl ?_ ⟨rfl,rfl,rfl,rfl,trivial⟩ ?_ trivial rfl ?_
 ·exact Nat.zero_le _
 ·repeat' first | exact trivial | refine⟨rfl,?_⟩
 ·repeat' first | exact trivial | refine⟨rfl,?_⟩
 rintro⟨k,hk⟩;show W _ _ _ _ _ ⟨[(2,.ptr 0 0),(4,.ptr 1 0),(8,.mp 2 (eA ik uz (iC (ps.take k)))),(31,.d (.v (.int .i64 ((k:Nat):Int)))),(29,_),(30,_)],[(0,(mA ts).map A.d),(1,[.d (.v (.slice none 0 0)),.d (.v (.slice none 0 0)),.d (.v (.slice none 0 0)),.d (.v (.slice none 0 0))])],[2],3⟩;refine W.seq (W.region (pE rfl (WO.nil (qs (W.seq (bu (l:=ps) (k:=k) rfl (by simp[Ex.aF,au]) hk (fun p J hd ad=>?_) (fun he hd=>?_)))))));·
  obtain⟨aj,a1,a6,a7⟩:=N.2.1 p (List.mem_of_getElem? J);have M:=Ap X J;have b0:=zS X J;obtain⟨th,se,lo,evs⟩:=p;simp only at aj a1 a6 a7;subst aj;subst a1;refine W.skip (qs (W.seq (W.block (W.seq (W.region (pu (indexAddr aa rfl rfl rfl rfl rfl rfl (Int.natCast_nonneg _) (aM J) rfl) rfl ?_))))));refine pE rfl (aQ aa rfl rfl rfl (ar aa rfl rfl rfl rfl rfl rfl rfl rfl (WO.nil (qs (W.seq (W.region ?_))))));iterate 2 refine pE rfl ?_
  refine pE rfl (pu (lB (kf:=ik) (vf:=uz) (l:=iC (ps.take k)) (a:=th) (z:=.v (.slice none 0 0)) (r:=.v (.slice none 0 0)) aa rfl rfl rfl rfl rfl (gd (aa.fw rfl rfl)) rfl rfl rfl (fun _ _=>.v _ rfl) (by rw[kj];exact rJ X k) (by rw[M])) rfl ?_);refine pE rfl (WO.nil (qs ?_));iterate 2 refine W.seq ?_
  apply aG;(case hb=>rfl);·
   refine pE rfl (pE rfl ?_);iterate 2 refine pE rfl ?_
   apply fJ;(case hj=>rfl);(case hl=>rfl);·
    intro b2;iterate 3 refine aE rfl rfl rfl rfl ?_
    refine pE rfl (WO.nil (bg rfl rfl rfl))
   intro b2;refine aH rfl rfl (pE rfl (aH rfl rfl (pE rfl (aH rfl rfl ?_))));iterate 2 refine pE rfl ?_
   refine WO.nil (bg rfl rfl rfl)
  refine qs (ab rfl (fun a8=>?_) (fun a8=>?_));·
   refine W.FQ (d:=11) rfl rfl ?_;refine W.region ?_;iterate 2 refine pE rfl ?_
   refine pE rfl (pE rfl (pE rfl (pE rfl (pE rfl (pu (build aa rfl rfl rfl rfl) rfl ?_)))));refine pu (ba aa rfl rfl rfl rfl rfl rfl rfl rfl rfl) rfl ?_;refine A1 aa rfl rfl rfl rfl rfl rfl rfl rfl rfl rfl rfl (fun x J=>by obtain rfl:=List.mem_singleton.1 J;rfl) (by show 1*48≤140737488355328;decide) rfl ?_;refine pE rfl (WO.nil (qs ?_));apply W.jJ aa 7 6;(case hB=>kernel_rfl);(case h1=>rfl);(case h2=>rfl);refine' eY ?p1_1 (ev aa rfl) rfl rfl rfl rfl rfl ?h_1;case' h_1=>skip
   refine' eY ?p1_2 (ev aa rfl) rfl rfl rfl rfl rfl ?h_2;case' h_2=>skip
   refine' eY ?p1_3 (ev aa rfl) rfl rfl rfl rfl rfl ?h_3;case' h_3=>skip
   refine' j6 (ev aa rfl) rfl rfl rfl rfl rfl ?h_4;case' h_4=>skip
   refine' eY ?p1_5 (ev aa rfl) rfl rfl rfl rfl rfl ?h_5;case' h_5=>skip
   refine' j6 (ev aa rfl) rfl rfl rfl rfl rfl ?h_6;case' h_6=>skip
   refine' Eu (fun g=>?e_7) rfl rfl rfl ?h_7;case e_7=>refine aK [] [5] rfl rfl rfl rfl rfl ((Dx th evs a6 a7)) rfl rfl (by rfl) (by rfl) rfl rfl rfl rfl ?_;refine WO.nil ?_;exact⟨rfl,rfl⟩
   case' h_7=>skip
   case p1_1=>exact(ev aa rfl)
   case p1_2=>exact(ev aa rfl)
   case p1_3=>exact(ev aa rfl)
   case p1_5=>exact(ev aa rfl)
   refine CC.nil ?_;first | refine rb (kf:=ik) (vf:=uz) (l:=iC (ps.take k)) (a:=th) (y:=.sl [bl.c ⟨th,0,0,evs⟩]) aa 8 rfl rfl rfl rfl rfl rfl rfl (gd (aa.fw rfl rfl)) rfl rfl (by rw[kj];exact rJ X k) (by rw[b0]) rfl ?_
   refine WO.nil (be (qs (W.region ?_)));iterate 2 refine pE rfl ?_
   refine WO.nil (W.bt [0,1,7] ⟨k+1,?_⟩ ?_ rfl ?_ ⟨rfl,rfl,rfl,rfl,trivial⟩ ?_ trivial rfl);·exact ad
   ·dsimp only;omega
   ·repeat' first | exact trivial | refine⟨rfl,?_⟩ | refine⟨aL (by assumption) (by assumption),?_⟩
   repeat' first | exact trivial | refine⟨rfl,?_⟩
  exfalso;simp at a8
 have b3:ps.take k=ps:=List.take_of_length_le (by omega);rw[b3];have cq:ts.length≤maxLen:=by simp only[maxLen];omega
 refine W.exit (aW (aT (aS (qs (W.seq (W.region (pE rfl (pu (build aa rfl rfl rfl rfl) rfl ?_))))))));refine aQ aa rfl rfl rfl (ar aa rfl rfl rfl rfl rfl rfl rfl rfl (WO.nil (qs ?_)));iterate 2 refine W.seq ?_
 refine ez 3 3 rfl rfl rfl ?_;refine W.region (pE rfl (pE rfl ?_));iterate 2 refine pE rfl ?_
 refine WO.nil (qs (W.block ?_))
 refine W.bh (ι:={x:Nat×List bl // match x with | (k,m)=>k≤ts.length∧m=mv (ts.take k) ps})
  (fun x=>match x.1 with | (k,m)=>[(4,.ptr 0 0),(8,.mp 2 (eA ik uz (iC ps))),(12,.ptr 1 0),(70,.d (.v (.int .i64 ((k:Nat):Int))))]) [(68,_),(69,_)]
  (fun x=>match x.1 with | (k,m)=>[(0,[.d (.v (.slice none 0 0)),.d (.v (.slice none 0 0)),.d (.v (.slice none 0 0)),.d (.v (.slice none 0 0))]),(1,[.d (.sl (ts.map cf.c)),.d (.sl (dS.map eQ)),.d (.sl []),.own 3 (m.map bl.c)])]) [] [2,3] 4 (fun x=>match x.1 with | (k,m)=>ts.length - k)
  [1,3,2,4] ⟨(0,[]),?_⟩ rfl ?_ ⟨rfl,rfl,rfl,rfl,trivial⟩ ?_ trivial rfl ?_
 ·exact⟨Nat.zero_le _,rfl⟩
 ·repeat' first | exact trivial | refine⟨rfl,?_⟩
 ·repeat' first | exact trivial | refine⟨rfl,?_⟩
 rintro⟨⟨k,m⟩,hk,hM⟩;show W _ _ _ _ _ ⟨[(4,.ptr 0 0),(8,.mp 2 (eA ik uz (iC ps))),(12,.ptr 1 0),(70,.d (.v (.int .i64 ((k:Nat):Int)))),(68,_),(69,_)],[(0,[.d (.v (.slice none 0 0)),.d (.v (.slice none 0 0)),.d (.v (.slice none 0 0)),.d (.v (.slice none 0 0))]),(1,[.d (.sl (ts.map cf.c)),.d (.sl (dS.map eQ)),.d (.sl []),.own 3 (m.map bl.c)])],[2,3],4⟩;refine W.seq (W.region (pE rfl (WO.nil (qs (W.seq (bu (l:=ts) (k:=k) rfl (by simp[Ex.aF,au]) hk (fun t J hd ad=>?_) (fun he hd=>?_)))))));·
  obtain⟨I,ai⟩:∃ I,I=(ps.find? fun p=>decide (p.thread=t.id)).toList:=⟨_,rfl⟩;have ch:m++I=mv (ts.take (k+1)) ps:=by rw[hM,ai];unfold mv;rw[List.take_add_one,J,List.flatMap_append];simp
  have cx:m.length≤64:=by rw[hM];exact Co ps (by simp;omega)
  have cy:I.length≤1:=by rw[ai];cases ps.find? _ <;> simp
  have M:(bT (iC ps) t.id).getD (.v (.slice none 0 0))=if I=[] then .v (.slice none 0 0) else .sl (I.map bl.c):=by rw[AT,ai];cases ps.find? _ <;> simp
  refine W.skip (qs (W.seq (W.block (W.seq (W.region (pu (indexAddr aa rfl rfl rfl rfl rfl rfl (Int.natCast_nonneg _) (aM J) rfl) rfl ?_))))));refine pE rfl (aQ aa rfl rfl rfl (ar aa rfl rfl rfl rfl rfl rfl rfl rfl (WO.nil (qs (W.region (pE rfl (pE rfl ?_)))))));iterate 2 refine pE rfl ?_
  refine pE rfl (pu (lB (kf:=ik) (vf:=uz) (l:=iC ps) (a:=t.id) (z:=.v (.slice none 0 0)) (r:=if I=[] then .v (.slice none 0 0) else .sl (I.map bl.c)) aa rfl rfl rfl rfl rfl (gd (aa.fw rfl rfl)) rfl rfl rfl (fun _ _=>.v _ rfl) (by rw[kj];exact X) (by rw[M])) rfl ?_);refine A3 (l2:=I) (fn:=bl.c) aa rfl rfl (by by_cases q:I=[] <;> simp[q,fU]) rfl rfl rfl rfl rfl rfl rfl (fun _=>rfl) (by show(m.length+I.length)*48≤_;omega) ?_;refine pE rfl (ar aa rfl rfl rfl rfl rfl rfl rfl rfl (WO.nil (be (qs (W.region ?_)))));iterate 2 refine pE rfl ?_
  refine WO.nil (W.bt [0,1,2,5] ⟨(k+1,m++I),?_⟩ ?_ rfl ?_ ⟨rfl,rfl,rfl,rfl,trivial⟩ ?_ trivial rfl);·exact⟨ad,ch⟩
  ·dsimp only;omega
  ·repeat' first | exact trivial | refine⟨rfl,?_⟩ | refine⟨aL (by assumption) (by assumption),?_⟩
  repeat' first | exact trivial | refine⟨rfl,?_⟩
 have cj:m=ps:=by rw[hM,List.take_of_length_le (by omega),nK N.1 ok.2]
 subst cj;refine W.exit (aW (aT (aS (qs (W.seq (W.region (pE rfl (ar aa rfl rfl rfl rfl rfl rfl rfl rfl (pE rfl (WO.nil (qs (W.ret (QV.aw aa trivial rfl ?_)))))))))))));rw[U];rfl
end Go.Proofs.YtpiaiiopakafhaaGreatDoor
namespace Go.Proofs.YtpiaiiopakafhaaGreatDoor
open Go.Ab Go.Tb
set_option maxRecDepth 10000
set_option maxHeartbeats 1000000
attribute [local irreducible] W WO Pu QS QB QL QF QV bA CH QE
theorem FO {ts:List cf} {ps:List bl} (h:(e7 ts ps).2=0):(e7 ts ps).1=⟨ts,dS,ps⟩:=by
 unfold e7 at h ⊢;split at h;·rename_i q;exact absurd h q
 rename_i q;rw[if_neg q];split at h;·rename_i q2;exact absurd h q2
 rename_i q2;rw[if_neg q2]
theorem sK (ts:List cf) (ps:List bl) (ok:sZ ts ps):ay Tryz.prog 12 [.ag (iV.c ⟨ts,dS,ps⟩)] (.d (ci (e7 ts ps).2)) 0:=by
 refine ay.aZ (n:=22) (ts:=[2]) Tryz.func12 (by kernel_rfl) rfl Tryz.ntmps12 Tryz.results12 rfl rfl fun C hC M=>?_;refine W.seq (W.region (bK rfl rfl rfl (pE rfl (WO.nil (qs (W.seq (W.region (pE rfl (pE rfl (pE rfl (pE rfl (pu (ao rfl rfl rfl (zL ts ps ok) rfl) rfl ?_))))))))))));iterate 3 refine pE rfl ?_
 refine aQ aa rfl rfl rfl (ar aa rfl rfl rfl rfl rfl rfl rfl rfl (pE rfl (WO.nil (qs ?_))));iterate 2 refine W.seq ?_
 apply aG;(case hb=>rfl);·
  iterate 3 refine pE rfl ?_
  apply fJ;(case hj=>rfl);(case hl=>rfl);·
   intro g15;refine aH rfl rfl (pE rfl (aH rfl rfl (pE rfl (aH rfl rfl (pu (ao rfl rfl rfl (Cx (e7 ts ps).1 ⟨ts,dS,ps⟩) rfl) rfl ?_)))));refine aH rfl rfl ?_;iterate 2 refine pE rfl ?_
   refine WO.nil (bg rfl rfl rfl)
  intro g15;iterate 4 refine aE rfl rfl rfl rfl ?_
  refine pE rfl (WO.nil (bg rfl rfl rfl))
 refine qs (ab rfl (fun I=>?_) (fun I=>?_));·
  exfalso;have J:(e7 ts ps).2=0→ov (e7 ts ps).1 ⟨ts,dS,ps⟩=true:=fun q=>by rw[FO q];exact(xT _ _).2 rfl
  by_cases q:(e7 ts ps).2=0;·rw[J q] at I;simp at I
  simp[q] at I
 refine W.skip (qs (W.seq (W.region ?_)));iterate 2 refine pE rfl ?_
 refine WO.nil (qs (W.ret (QF.aw trivial rfl ?_)));rfl
theorem Dl (ts:List cf) (ps:List bl) (ok:sZ ts ps):ay Tryz.prog 13 [.ag (iV.c ⟨ts,dS,ps⟩)] (.d (.sl [])) 0:=by
 refine ay.aZ (n:=34) (ts:=[2]) Tryz.func13 (by kernel_rfl) rfl Tryz.ntmps13 Tryz.results13 rfl rfl fun C hC U=>?_;refine W.seq (W.region (bK rfl rfl rfl (pE rfl (WO.nil (qs ?_)))));iterate 2 refine W.seq ?_
 refine W.region (pE rfl (pu (ao rfl rfl rfl (sK ts ps ok) rfl) rfl ?_));refine pE rfl (WO.nil (qs (ab rfl (fun N=>?_) (fun N=>?_))));·
  refine W.seq (W.region (pE rfl (WO.nil (qs ?_))));try refine jI (d:=2) rfl rfl ?_
  refine W.ret (an (QF.aw trivial rfl ?_));rfl
 refine W.skip (qs (W.seq (W.region (pE rfl (WO.nil (qs ?_))))));iterate 2 refine W.seq ?_
 refine W.region (pE rfl (pE rfl ?_));iterate 2 refine pE rfl ?_
 refine WO.nil (qs (W.block (W.len (t:=10) rfl rfl (fun hlen=>?_))));try simp only[List.length_map,Ex.aF] at hlen
 refine W.bh (ι:={x:Nat // match x with | k=>k≤ps.length})
  (fun x=>match x.1 with | k=>[(3,.d (.v (.slice none 0 0))),(12,.d (.v (.int .i64 ((k:Nat):Int))))]) [(10,_),(11,_)]
  (fun x=>match x.1 with | k=>[]) [] [] 0 (fun x=>match x.1 with | k=>ps.length - k)
  [] ⟨0,?_⟩ rfl ?_ ⟨rfl,rfl,rfl,rfl,trivial⟩ ?_ trivial rfl ?_
 ·exact Nat.zero_le _
 ·repeat' first | exact trivial | refine⟨rfl,?_⟩
 ·repeat' exact trivial
 rintro⟨k,O⟩;show W _ _ _ _ _ ⟨[(3,.d (.v (.slice none 0 0))),(12,.d (.v (.int .i64 ((k:Nat):Int)))),(10,_),(11,_)],[],[],0⟩;refine W.seq (W.region (pE rfl (WO.nil (qs (W.seq (bu (l:=ps) (k:=k) rfl (by simp[Ex.aF,au]) O (fun p J hd M=>?_) (fun he hd=>?_)))))));·
  refine W.skip (qs (W.seq (W.block (W.seq (W.region (pu (indexAddr (l:=p.c) aa rfl rfl rfl rfl rfl rfl (Int.natCast_nonneg _) (aM J) rfl) rfl ?_))))));refine pE rfl (aQ aa rfl rfl rfl (ar aa rfl rfl rfl rfl rfl rfl rfl rfl (WO.nil (qs (W.seq (W.region (pE rfl (pE rfl (pE rfl (WO.nil (qs (ab rfl (fun I=>?_) (fun I=>?_)))))))))))));·
   exfalso;have:=(ok.2.1 p (List.mem_of_getElem? J)).2.1;simp at I;omega
  refine W.skip (be (qs (W.region ?_)));iterate 2 refine pE rfl ?_
  refine WO.nil (W.bt [] ⟨k+1,?_⟩ ?_ rfl ?_ ⟨rfl,rfl,rfl,rfl,trivial⟩ ?_ trivial rfl);·exact M
  ·dsimp only;omega
  ·repeat' first | exact trivial | refine⟨rfl,?_⟩ | refine⟨aL (by assumption) (by assumption),?_⟩
  repeat' exact trivial
 refine W.exit (aW (aT (aS (qs (W.seq (W.region ?_))))));iterate 2 refine pE rfl ?_
 refine WO.nil (qs ?_);try refine jI (d:=2) rfl rfl ?_
 refine W.ret (QF.aw trivial rfl ?_);rfl
end Go.Proofs.YtpiaiiopakafhaaGreatDoor
namespace Go.Proofs.YtpiaiiopakafhaaGreatDoor
open Go.Ab Go.RowKit
abbrev tB:Nat:=150
abbrev tU:Nat:=5
theorem vz:(Tryz.prog.info? tB).map (·.size)=some 2:=by kernel_rfl
theorem BV:liesAt Tryz.prog Tryz.prog.depth tB (2 / Tryz.prog.cellsOf tB) 0 tB 1=true:=by kernel_rfl
set_option maxHeartbeats 1000000 in
set_option maxRecDepth 100000 in
theorem CJ (b:Nat) (w:World) (h0:w.cell? ⟨b,0,none⟩=some (.pointer (some ⟨b,0,none⟩))) :
 Calls Tryz.prog 170 #[.pointer (some ⟨b,0,none⟩)] w fun e w'=>e=.returned (.tuple #[])∧w'=w:=by
 obtain⟨j,hj,_⟩:=Option.map_eq_some_iff.1 vz;have t150:=Tryz.underlying150;have I:=Tryz.isAgg150;have J:=Tryz.sizeOf150;have M:=run_underlying Tryz.underlying150;have t147:=Tryz.underlying147;have N:=Tryz.isAgg147;have O:=Tryz.sizeOf147;have U:=run_underlying Tryz.underlying147;have t225:=Tryz.underlying225;have X:=Tryz.isAgg225;have Z:=Tryz.sizeOf225;have ad:=run_underlying Tryz.underlying225
 go_enter Tryz.func170,Tryz.ntmps170
 go_wp2
 rw[Lib.run_neq_ptr_same w _ Tryz.underlying147 hj]
 go_wp2
 go_end0
 exact⟨rfl,rfl⟩
set_option maxHeartbeats 1000000 in
set_option maxRecDepth 100000 in
theorem AL (b:Nat) (w:World) (h0:w.cell? ⟨b,0,none⟩=some (.pointer none)) (I:w.shape? b=some (tB,2)) (a1:w.frozen? ⟨b,0,none⟩=false) :
 Calls Tryz.prog 170 #[.pointer (some ⟨b,0,none⟩)] w fun e w'=>e=.returned (.tuple #[])∧w'=w.setCell ⟨b,0,none⟩ (.pointer (some ⟨b,0,none⟩)):=by
 obtain⟨j,hj,J⟩:=Option.map_eq_some_iff.1 vz;have t150:=Tryz.underlying150;have M:=Tryz.isAgg150;have N:=Tryz.sizeOf150;have O:=run_underlying Tryz.underlying150;have t147:=Tryz.underlying147;have U:=Tryz.isAgg147;have X:=Tryz.sizeOf147;have Z:=run_underlying Tryz.underlying147;have t225:=Tryz.underlying225;have ad:=Tryz.isAgg225;have ai:=Tryz.sizeOf225;have aj:=run_underlying Tryz.underlying225
 go_enter Tryz.func170,Tryz.ntmps170
 go_wp2
 rw[Lib.run_to_unsafe w ⟨b,0,none⟩ Tryz.underlying147 Tryz.underlying225 hj (by rw[J];decide) I (Nat.zero_lt_succ 1)];simp only[Result.andThen];rw[Oper.upon_value]
 go_wp2
 rw[run_callFunc_extern Tryz.func186 (by kernel_rfl) (by kernel_rfl) (by kernel_rfl) (e:=Extern.AbiNoEscape.same) (by kernel_rfl)];rw[Lib.run_noEscape];simp only[Result.andThen];rw[Oper.upon_value]
 go_wp2
 rw[Lib.run_from_unsafe w ⟨b,0,none⟩ Tryz.underlying225 Tryz.underlying147 hj I BV];simp only[Result.andThen];rw[Oper.upon_value]
 go_wp2
 go_end0
 exact⟨rfl,rfl⟩
theorem EC:iQ Tryz.prog 170:=⟨_,Tryz.func170,by kernel_rfl,by kernel_rfl⟩
theorem Ar:iQ Tryz.prog 90:=⟨_,Tryz.func90,by kernel_rfl,by kernel_rfl⟩
theorem Bn:kP Tryz.prog tB 170:=⟨CJ,AL⟩
theorem xC:qq Tryz.prog tB tU 90:=fun B b l w h hB=>Tryz.Builder_String_any B b l w h hB
end Go.Proofs.YtpiaiiopakafhaaGreatDoor
namespace Go.Proofs.YtpiaiiopakafhaaGreatDoor
open Go.Ab Go.Tb
set_option maxRecDepth 10000
set_option maxHeartbeats 1000000
attribute [local irreducible] W WO Pu QS QB QL QF QV bA CH QE
theorem nV (u:Bool) (s:ByteArray):bz Tryz.prog 170 [.ptr 0 0] [[.np 0 tB u,.bf 1 tU s]] 1 (.tup []) [[.np 0 tB true,.bf 1 tU s]] 1:=kP.BS EC Bn u (.bf 1 tU s) 1
theorem Aa (u:Bool) (s x:ByteArray) (hb:s.size+x.size≤140737488355328):bz Tryz.prog 137 [.ptr 0 0,.d (.v (.string x))] [[.np 0 tB u,.bf 1 tU s]] 1 (.tup [.d (.v (.int .i64 x.size)),.d (.v .nilIface)]) [[.np 0 tB true,.bf 1 tU (s++x)]] 1:=by
 refine bz.cX aa (n:=19) (rs:=[.tmp 4,.tmp 5]) Tryz.func137 (by kernel_rfl) rfl Tryz.ntmps137 Tryz.results137 rfl rfl fun C hC I=>?_;refine W.seq (W.region ?_);iterate 2 refine pE rfl ?_
 refine WO.nil (qs (W.seq (W.region (pE rfl (aK [0] [1] rfl rfl rfl rfl rfl ((nV u s)) rfl rfl (by rfl) (by rfl) rfl rfl rfl rfl ?_)))));refine WO.nil (qs (W.seq (W.region ?_)));iterate 4 refine pE rfl ?_
 refine pE rfl (pE rfl (yM aa rfl rfl rfl rfl rfl rfl rfl rfl rfl rfl hb rfl rfl ?_));iterate 2 refine pE rfl ?_
 refine ar aa rfl rfl rfl rfl rfl rfl rfl rfl (WO.nil (qs (W.seq (W.region ?_))));iterate 4 refine pE rfl ?_
 refine WO.nil (qs (W.ret (b7.end aa [4] trivial rfl rfl rfl rfl ?_ ?_)));·exact⟨rfl,trivial⟩
 rfl
theorem ny (u:Bool) (s:ByteArray) (c:Int) (m:ByteArray) (hm:m.size=1) (I:∀ b,m.data[0]? = some b→(b.toNat:Int)=c) (hb:s.size+1≤140737488355328):bz Tryz.prog 139 [.ptr 0 0,.d (.v (.int .u8 c))] [[.np 0 tB u,.bf 1 tU s]] 1 (.d (.v .nilIface)) [[.np 0 tB true,.bf 1 tU (s++m)]] 1:=by
 refine bz.cX aa (n:=17) (rs:=[.tmp 4]) Tryz.func139 (by kernel_rfl) rfl Tryz.ntmps139 Tryz.results139 rfl rfl fun C hC J=>?_;refine W.seq (W.region (pE rfl (WO.nil (qs (W.seq (W.region (pE rfl (aK [0] [1] rfl rfl rfl rfl rfl ((nV u s)) rfl rfl (by rfl) (by rfl) rfl rfl rfl rfl ?_))))))));refine WO.nil (qs (W.seq (W.region ?_)));iterate 4 refine pE rfl ?_
 refine pE rfl (pE rfl (pu (ba aa rfl rfl rfl rfl rfl rfl rfl rfl rfl) rfl ?_));refine wB aa rfl rfl rfl rfl rfl rfl rfl rfl m hm I hb rfl rfl ?_;iterate 2 refine pE rfl ?_
 refine ar aa rfl rfl rfl rfl rfl rfl rfl rfl (WO.nil (qs (W.seq (W.region (pE rfl (WO.nil (qs (W.ret (b7.end aa [4] trivial rfl rfl rfl rfl ?_ ?_)))))))));·exact⟨rfl,trivial⟩
 rfl
theorem vX (b:UInt8):ay Tryz.prog 171 [.d (.v (.int .u8 b.toNat))] (.d (.v (.bool (known b)))) 0:=by
 refine ay.aZ (n:=17) (ts:=[2]) Tryz.func171 (by kernel_rfl) rfl Tryz.ntmps171 Tryz.results171 rfl rfl fun C hC I=>?_;refine W.seq (W.region (pE rfl (WO.nil (qs (W.seq ?_)))));apply aG;(case hb=>rfl);·repeat' first | refine bg rfl rfl rfl | refine aH rfl rfl ?_ | refine aE rfl rfl rfl rfl ?_ | refine iv rfl rfl rfl ?_ | refine pE rfl ?_ | refine WO.nil ?_ | (apply aP;(case hj=>rfl);(case hl=>rfl))
 refine qs (W.ret (QF.aw trivial rfl ?_));show A.d (D.v (Value.bool _))=A.d (D.v (Value.bool _));congr 3;unfold known;generalize b.toNat=n;simp only[show((n:Int)=9)=(n=9) from propext (by omega),show((n:Int)=10)=(n=10) from propext (by omega),show((32:Int)≤n)=(32≤n) from propext (by omega),show((n:Int)≤126)=(n≤126) from propext (by omega)];cases decide (n=9) <;> cases decide (n=10) <;> cases decide (32≤n) <;> cases decide (n≤126) <;> rfl
theorem plain_fn (s:ByteArray):ay Tryz.prog 144 [.d (.v (.string s))] (.d (.v (.bool (cb s)))) 0:=by
 refine ay.aZ (n:=15) (ts:=[2]) Tryz.func144 (by kernel_rfl) rfl Tryz.ntmps144 Tryz.results144 rfl rfl fun C hC O=>?_;refine W.seq (W.region (pE rfl (WO.nil (qs ?_))));iterate 2 refine W.seq ?_
 refine W.region ?_;iterate 3 refine pE rfl ?_
 refine WO.nil (qs (W.block (W.jC (t:=0) rfl (fun hok=>?_))));have hlen:=iR hok
 refine W.bh (ι:={x:Nat // match x with | k=>k≤(ak s).length∧((ak s).drop k).all known=(ak s).all known})
  (fun x=>match x.1 with | k=>[(6,.d (.v (.int .i64 ((k:Nat):Int))))]) [(0,_),(5,_)]
  (fun x=>match x.1 with | k=>[]) [] [] 0 (fun x=>match x.1 with | k=>(ak s).length - k)
  [] ⟨0,?_⟩ rfl ?_ ⟨rfl,rfl,rfl,rfl,trivial⟩ ?_ trivial rfl ?_
 ·exact⟨Nat.zero_le _,rfl⟩
 ·repeat' first | exact trivial | refine⟨rfl,?_⟩
 ·repeat' exact trivial
 rintro⟨k,N,I⟩;show W _ _ _ _ _ ⟨[(6,.d (.v (.int .i64 ((k:Nat):Int)))),(0,_),(5,_)],[],[],0⟩;refine W.seq (W.region (pE rfl (WO.nil (qs (W.seq (bu (l:=ak s) (k:=k) rfl (by simp[Ex.aF,au]) N (fun b U hd J=>?_) (fun he hd=>?_)))))));·
  rw[hd,List.all_cons] at I;refine W.skip (qs (W.seq (W.block (W.seq (W.region ?_)))));iterate 2 refine pE rfl ?_
  refine WO.nil (qs (W.seq (W.region ?_)));iterate 2 refine pE rfl ?_
  refine pu (db aa rfl rfl rfl rfl (Int.natCast_nonneg _) (eZ (by assumption))) rfl ?_;refine pu (ao rfl rfl rfl (vX ..) rfl) rfl ?_;refine pE rfl (WO.nil (qs (ab rfl (fun M=>?_) (fun M=>?_))));·
   refine W.seq (W.region (pE rfl (WO.nil (qs (W.ret (aC (an (cn (aC (an (QF.aw trivial rfl ?_)))))))))));simp only[norm,aI];unfold cb;rw[←I];simp_all
  refine W.skip (be (qs (W.region ?_)));iterate 2 refine pE rfl ?_
  refine WO.nil (W.bt [] ⟨k+1,?_⟩ ?_ rfl ?_ ⟨rfl,rfl,rfl,rfl,trivial⟩ ?_ trivial rfl);·exact⟨J,by rw[←I];simp_all⟩
  ·dsimp only;omega
  ·repeat' first | exact trivial | refine⟨aL (by assumption) (by assumption),?_⟩
  repeat' exact trivial
 rw[hd] at I;refine W.exit (aW (aT (aS (qs (W.seq (W.region (pE rfl (WO.nil (qs (W.ret (QF.aw trivial rfl ?_)))))))))));simp only[norm,aI];unfold cb;rw[←I];simp_all
theorem DQ (a b:Nat) (I:a≤maxLen) (hb:b≤maxLen):decide (IntKind.i64.wrap ((a:Int)+(b:Int))=0)=decide (a+b=0):=by
 have e:maxLen=9223372036854775807:=rfl;have h:=wrap_zero (x:=(a:Int)+(b:Int)) (by omega) (by omega);by_cases q:a+b=0;·rw[decide_eq_true q,decide_eq_true (h.2 (by omega))]
 rw[decide_eq_false q,decide_eq_false (fun z=>q (by have:=h.1 z;omega))]
theorem Aq (j:JV):ay Tryz.prog 142 [.ag j.c] (.d (.v (.bool (bN j)))) 0:=by
 refine ay.aZ (n:=91) (ts:=[2]) Tryz.func142 (by kernel_rfl) rfl Tryz.ntmps142 Tryz.results142 rfl rfl fun C hC Z=>?_;refine W.seq (W.region (bK rfl rfl rfl (pE rfl (WO.nil (qs ?_)))));iterate 2 refine W.seq ?_
 refine kg (g:=0) (j:=3) rfl rfl (fun M=>?_);refine kg (g:=0) (j:=4) rfl rfl (fun N=>?_);rw[List.length_map] at M;rw[JV.aF] at N;have I:=DQ _ _ M N;refine W.region (pE rfl (pE rfl (WO.nil (qs (W.block (W.seq (W.region ?_)))))));iterate 2 refine pE rfl ?_
 refine WO.nil (qs (ab rfl (fun h5=>?_) (fun h5=>?_)));·
  refine W.seq ?_;apply aG;(case hb=>rfl);·repeat' first | refine bg rfl rfl rfl | refine aH rfl rfl ?_ | refine aE rfl rfl rfl rfl ?_ | refine pE rfl ?_ | refine WO.nil ?_ | (apply aP;(case hj=>rfl);(case hl=>rfl))
  refine qs (W.ret (aC (an (QF.aw trivial rfl ?_))));show A.d (D.v (Value.bool _))=A.d (D.v (Value.bool _));congr 3;unfold bN;try simp only[List.length_map,JV.aF,I]
  simp only[decide_eq_true_eq,decide_eq_false_iff_not] at *;simp_all <;> grind
 iterate 2 refine W.seq ?_
 refine W.region ?_;iterate 2 refine pE rfl ?_
 refine WO.nil (qs (ab rfl (fun J=>?_) (fun J=>?_)));·
  refine W.skip (qs (W.fX rfl (W.seq ?_)));apply aG;(case hb=>rfl);·repeat' first | refine bg rfl rfl rfl | refine aH rfl rfl ?_ | refine aE rfl rfl rfl rfl ?_ | refine pE rfl ?_ | refine WO.nil ?_ | (apply aP;(case hj=>rfl);(case hl=>rfl))
  refine qs (W.ret (aC (an (QF.aw trivial rfl ?_))));show A.d (D.v (Value.bool _))=A.d (D.v (Value.bool _));congr 3;unfold bN;try simp only[List.length_map,JV.aF,I]
  simp only[decide_eq_true_eq,decide_eq_false_iff_not] at *;simp_all <;> grind
 refine W.region ?_;iterate 2 refine pE rfl ?_
 refine WO.nil (qs (ab rfl (fun J=>?_) (fun J=>?_)));·
  refine W.seq ?_;apply aG;(case hb=>rfl);·repeat' first | refine bg rfl rfl rfl | refine aH rfl rfl ?_ | refine aE rfl rfl rfl rfl ?_ | refine pE rfl ?_ | refine WO.nil ?_ | (apply aP;(case hj=>rfl);(case hl=>rfl))
  refine qs (W.ret (aC (an (QF.aw trivial rfl ?_))));show A.d (D.v (Value.bool _))=A.d (D.v (Value.bool _));congr 3;unfold bN;try simp only[List.length_map,JV.aF,I]
  simp only[decide_eq_true_eq,decide_eq_false_iff_not] at *;simp_all <;> grind
 refine W.seq (W.region ?_);iterate 2 refine pE rfl ?_
 refine WO.nil (qs (ab rfl (fun O=>?_) (fun O=>?_)));·
  refine W.seq ?_;apply aG;(case hb=>rfl);·repeat' first | refine bg rfl rfl rfl | refine aH rfl rfl ?_ | refine aE rfl rfl rfl rfl ?_ | refine pE rfl ?_ | refine WO.nil ?_ | (apply aP;(case hj=>rfl);(case hl=>rfl))
  refine qs (W.ret (aC (an (QF.aw trivial rfl ?_))));show A.d (D.v (Value.bool _))=A.d (D.v (Value.bool _));congr 3;unfold bN;try simp only[List.length_map,JV.aF,I]
  simp only[decide_eq_true_eq,decide_eq_false_iff_not] at *;simp_all <;> grind
 refine W.seq (W.region ?_);iterate 2 refine pE rfl ?_
 refine WO.nil (qs (ab rfl (fun U=>?_) (fun U=>?_)));·
  refine W.seq ?_;apply aG;(case hb=>rfl);·repeat' first | refine bg rfl rfl rfl | refine aH rfl rfl ?_ | refine aE rfl rfl rfl rfl ?_ | refine pE rfl ?_ | refine WO.nil ?_ | (apply aP;(case hj=>rfl);(case hl=>rfl))
  refine qs (W.ret (aC (an (QF.aw trivial rfl ?_))));show A.d (D.v (Value.bool _))=A.d (D.v (Value.bool _));congr 3;unfold bN;try simp only[List.length_map,JV.aF,I]
  simp only[decide_eq_true_eq,decide_eq_false_iff_not] at *;simp_all <;> grind
 refine W.seq (W.region ?_);iterate 2 refine pE rfl ?_
 refine WO.nil (qs (ab rfl (fun X=>?_) (fun X=>?_)));·
  refine W.seq ?_;apply aG;(case hb=>rfl);·repeat' first | refine bg rfl rfl rfl | refine aH rfl rfl ?_ | refine aE rfl rfl rfl rfl ?_ | refine pE rfl ?_ | refine WO.nil ?_ | (apply aP;(case hj=>rfl);(case hl=>rfl))
  refine qs (W.ret (aC (an (QF.aw trivial rfl ?_))));show A.d (D.v (Value.bool _))=A.d (D.v (Value.bool _));congr 3;unfold bN;try simp only[List.length_map,JV.aF,I]
  simp only[decide_eq_true_eq,decide_eq_false_iff_not] at *;simp_all <;> grind
 refine W.skip (be (qs (W.seq (W.region (pE rfl (WO.nil (qs (W.ret (QF.aw trivial rfl ?_)))))))));show A.d (D.v (Value.bool _))=A.d (D.v (Value.bool _));congr 3;unfold bN;try simp only[List.length_map,JV.aF,I]
 simp only[decide_eq_true_eq,decide_eq_false_iff_not] at *;simp_all <;> grind
theorem wC (l:List ByteArray):ay Tryz.prog 146 [.d (.sl (l.map sc))] (.d (.v (.bool (dR [] l)))) 0:=by
 refine ay.aZ (n:=19) (ts:=[2]) Tryz.func146 (by kernel_rfl) rfl Tryz.ntmps146 Tryz.results146 rfl rfl fun C hC hG=>?_;refine W.seq (W.region (pE rfl (WO.nil (qs (W.seq (W.region (mkMap rfl ?_)))))));refine pE rfl (WO.nil (qs ?_));iterate 2 refine W.seq ?_
 refine W.region ?_;iterate 3 refine pE rfl ?_
 refine WO.nil (qs (W.block (W.len (t:=7) rfl rfl (fun hlen=>?_))));try simp only[List.length_map,Ex.aF] at hlen
 refine W.bh (ι:={x:Nat // match x with | k=>k≤l.length∧(l.take k).Nodup∧dR (l.take k) (l.drop k)=dR [] l})
  (fun x=>match x.1 with | k=>[(3,.mp 0 (eA sk bv (fy (l.take k)))),(9,.d (.v (.int .i64 ((k:Nat):Int))))]) [(7,_),(8,_)]
  (fun x=>match x.1 with | k=>[]) [] [0] 1 (fun x=>match x.1 with | k=>l.length - k)
  [0] ⟨0,?_⟩ rfl ?_ ⟨rfl,rfl,rfl,rfl,trivial⟩ ?_ trivial rfl ?_
 ·exact⟨Nat.zero_le _,by simp,by simp⟩
 ·repeat' first | exact trivial | refine⟨rfl,?_⟩
 ·repeat' exact trivial
 rintro⟨k,Z,N,I⟩;show W _ _ _ _ _ ⟨[(3,.mp 0 (eA sk bv (fy (l.take k)))),(9,.d (.v (.int .i64 ((k:Nat):Int)))),(7,_),(8,_)],[],[0],1⟩;refine W.seq (W.region (pE rfl (WO.nil (qs (W.seq (bu (l:=l) (k:=k) rfl (by simp[Ex.aF,au]) Z (fun s O hd U=>?_) (fun he hd=>?_)))))));·
  rw[hd] at I;simp only[dR] at I;have M:l.take (k+1)=l.take k++[s]:=by rw[List.take_add_one,O];rfl
  refine W.skip (qs (W.seq (W.block (W.seq (W.region (pu (indexAddr aa rfl rfl rfl rfl rfl rfl (Int.natCast_nonneg _) (aM O) rfl) rfl ?_))))));refine pE rfl (pE rfl (WO.nil (qs ?_)));iterate 2 refine W.seq ?_
  refine W.region ?_;iterate 2 refine pE rfl ?_
  refine pu (lB (kf:=sk) (vf:=bv) (l:=fy (l.take k)) (a:=s) (z:=false) (zx:=.bool false) aa rfl rfl rfl rfl rfl (rh (aa.im rfl rfl)) rfl rfl rfl (fun w pv=>.v _ rfl) (by rw[jj];exact N) (congrArg bv (tu N s))) rfl ?_;refine WO.nil (qs (ab rfl (fun J=>?_) (fun J=>?_)));·
   rw[if_pos J] at I;refine W.seq (W.region (pE rfl (WO.nil (qs (W.ret (an (aC (an (cn (aC (an (QF.aw trivial rfl ?_))))))))))));simp only[norm,aI];rw[←I]
  rw[if_neg (by simp[J])] at I;have X:=qK N J;refine W.skip (qs (W.region ?_));iterate 2 refine pE rfl ?_
  refine rb (kf:=sk) (vf:=bv) (l:=fy (l.take k)) (a:=s) (y:=true) aa 3 rfl rfl rfl rfl rfl rfl rfl (rh (aa.im rfl rfl)) rfl rfl (by rw[jj];exact N) (congrArg (eA sk bv) ((sI J).trans (congrArg fy M.symm))) rfl ?_;refine WO.nil (be (qs (W.region ?_)));iterate 2 refine pE rfl ?_
  refine WO.nil (W.bt [1] ⟨k+1,?_⟩ ?_ rfl ?_ ⟨rfl,rfl,rfl,rfl,trivial⟩ ?_ trivial rfl);·exact⟨U,by rw[M];exact X,by rw[M];exact I⟩
  ·dsimp only;omega
  ·repeat' first | exact trivial | refine⟨rfl,?_⟩ | refine⟨aL (by assumption) (by assumption),?_⟩
  repeat' exact trivial
 rw[hd] at I;simp only[dR] at I;refine W.exit (aW (aT (aS (qs (W.seq (W.region (pE rfl (WO.nil (qs (W.ret (QF.aw trivial rfl ?_)))))))))));simp only[norm,aI];rw[←I]
end Go.Proofs.YtpiaiiopakafhaaGreatDoor
namespace Go.Proofs.YtpiaiiopakafhaaGreatDoor
open Go.Ab Go.Tb
set_option maxRecDepth 10000
set_option maxHeartbeats 1000000
attribute [local irreducible] W WO Pu QS QB QL QF QV bA CH QE
theorem eO (j:JV):j.c=[ci j.op,ci j.n,cs j.s,.sl (j.keys.map sc),.sl (j.kids.map JV.c)]:=by unfold JV.c;rw[JV.lF]
theorem eK (j:JV) (level:Int):aX j level=if cc j level≠0 then cc j level else b5 j.kids (level+1):=by cases j;simp only[aX,JV.kids]
theorem wk (s:ByteArray):ay Tryz.prog 145 [.d (.v (.string s))] (.d (.v (.bool (!cb s)))) 0:=by
 refine ay.aZ (n:=6) (ts:=[2]) Tryz.func145 (by kernel_rfl) rfl Tryz.ntmps145 Tryz.results145 rfl rfl fun C hC I=>?_;refine W.seq (W.region (pE rfl (WO.nil (qs (W.seq (W.region (pE rfl (pu (ao rfl rfl rfl (plain_fn ..) rfl) rfl ?_))))))));iterate 2 refine pE rfl ?_
 refine WO.nil (qs (W.ret (QF.aw trivial rfl ?_)));rfl
theorem AJ:∀ (j:JV) (level:Int),0≤level→level≤17→ay Tryz.prog 95 [.ag j.c,.d (.v (.int .i64 level))] (.d (.v (.int .i64 (aX j level)))) 0:=by
 refine JV.ind fun j J=>?_;intro level h0 h1;have I:=Aq j;rw[eO j] at I ⊢;have ad:bN j=true→j.op < 5→j.kids=[]:=by
  intro M a6;unfold bN at M;have e5:¬ j.op=5:=by omega
  have e6:¬ j.op=6:=by omega
  rw[if_neg e5,if_neg e6] at M;refine List.length_eq_zero_iff.1 ?_;split at M;·simp only[Bool.and_eq_true,decide_eq_true_eq] at M;omega
  split at M;·simp only[Bool.and_eq_true,decide_eq_true_eq] at M;omega
  split at M;·simp only[Bool.and_eq_true,decide_eq_true_eq] at M;omega
  cases M
 refine ay.aZ (n:=70) (ts:=[4]) Tryz.func95 (by kernel_rfl) rfl Tryz.ntmps95 Tryz.results95 rfl rfl fun C hC hG=>?_;refine W.seq (W.region (bK rfl rfl rfl (pE rfl (WO.nil (qs (W.seq (W.block (W.seq (W.region (pE rfl (pu (ao rfl rfl rfl I rfl) rfl ?_)))))))))));iterate 2 refine pE rfl ?_
 refine WO.nil (qs (ab rfl (fun h8=>?_) (fun h8=>?_)));·
  refine W.seq (W.region (pE rfl (WO.nil (qs (W.ret (aC (an (QF.aw trivial rfl ?_))))))));clear J I;show A.d (D.v (Value.int _ _))=A.d (D.v (Value.int _ _));congr 3;rw[eK j];unfold cc;grind
 iterate 2 refine W.seq ?_
 apply aG;(case hb=>rfl);·repeat' first | refine bg rfl rfl rfl | refine aH rfl rfl ?_ | refine aE rfl rfl rfl rfl ?_ | refine pE rfl ?_ | refine WO.nil ?_ | (apply aP;(case hj=>rfl);(case hl=>rfl))
 refine qs (ab rfl (fun O=>?_) (fun O=>?_));·
  refine W.skip (qs (W.fX rfl (W.seq (W.region (pE rfl (WO.nil (qs (W.ret (aC (an (QF.aw trivial rfl ?_)))))))))));clear J I;show A.d (D.v (Value.int _ _))=A.d (D.v (Value.int _ _));congr 3;rw[eK j];unfold cc;grind
 apply aG;(case hb=>rfl);·repeat' first | refine bg rfl rfl rfl | refine aH rfl rfl ?_ | refine aE rfl rfl rfl rfl ?_ | refine pE rfl ?_ | refine pu (ao rfl rfl rfl (CU ..) rfl) rfl ?_ | refine WO.nil ?_ | (apply aP;(case hj=>rfl);(case hl=>rfl))
 refine qs (ab rfl (fun O=>?_) (fun O=>?_));·
  refine W.seq (W.region (pE rfl (WO.nil (qs (W.ret (aC (an (QF.aw trivial rfl ?_))))))));clear J I;show A.d (D.v (Value.int _ _))=A.d (D.v (Value.int _ _));congr 3;rw[eK j];unfold cc;grind
 iterate 2 refine W.seq ?_
 refine W.region (pE rfl (pE rfl (pu (ao rfl rfl rfl (plain_fn ..) rfl) rfl ?_)));iterate 2 refine pE rfl ?_
 refine WO.nil (qs (ab rfl (fun U=>?_) (fun U=>?_)));·
  refine W.skip (qs (W.fX rfl (W.seq (W.region (pE rfl (WO.nil (qs (W.ret (aC (an (QF.aw trivial rfl ?_)))))))))));clear J I;show A.d (D.v (Value.int _ _))=A.d (D.v (Value.int _ _));congr 3;rw[eK j];unfold cc;grind
 refine W.region (pE rfl (pE rfl (pu (ao rfl rfl rfl (r9 _ [] ⟨fun _ _=>rfl,rfl⟩ _ wk j.keys) rfl) rfl ?_)));refine pE rfl (WO.nil (qs (ab rfl (fun U=>?_) (fun U=>?_))));·
  refine W.seq (W.region (pE rfl (WO.nil (qs (W.ret (aC (an (QF.aw trivial rfl ?_))))))));clear J I;show A.d (D.v (Value.int _ _))=A.d (D.v (Value.int _ _));congr 3;rw[eK j];unfold cc;grind
 refine W.seq (W.region (pE rfl (pE rfl (pu (ao rfl rfl rfl (wC ..) rfl) rfl ?_))));refine pE rfl (WO.nil (qs (ab rfl (fun aj=>?_) (fun aj=>?_))));·
  refine W.seq (W.region (pE rfl (WO.nil (qs (W.ret (aC (an (QF.aw trivial rfl ?_))))))));clear J I;show A.d (D.v (Value.int _ _))=A.d (D.v (Value.int _ _));congr 3;rw[eK j];unfold cc;grind
 refine W.seq ?_;apply aG;(case hb=>rfl);·repeat' first | refine bg rfl rfl rfl | refine aH rfl rfl ?_ | refine aE rfl rfl rfl rfl ?_ | refine pE rfl ?_ | refine WO.nil ?_ | (apply aP;(case hj=>rfl);(case hl=>rfl))
 refine qs (ab rfl (fun ai=>?_) (fun ai=>?_));·
  refine W.seq (W.region (pE rfl (WO.nil (qs (W.ret (aC (an (QF.aw trivial rfl ?_))))))));clear J I;show A.d (D.v (Value.int _ _))=A.d (D.v (Value.int _ _));congr 3;rw[eK j];unfold cc;grind
 refine W.skip (be (qs ?_));iterate 2 refine W.seq ?_
 refine W.region (pE rfl (pE rfl ?_));iterate 2 refine pE rfl ?_
 refine WO.nil (qs (W.block (W.len (t:=56) rfl rfl (fun hlen=>?_))));try simp only[List.length_map,Ex.aF] at hlen
 refine W.bh (ι:={x:Nat // match x with | k=>k≤j.kids.length∧b5 (j.kids.drop k) (level+1)=b5 j.kids (level+1)})
  (fun x=>match x.1 with | k=>[(58,.d (.v (.int .i64 ((k:Nat):Int))))]) [(1,_),(56,_),(57,_)]
  (fun x=>match x.1 with | k=>[]) [] [] 0 (fun x=>match x.1 with | k=>j.kids.length - k)
  [] ⟨0,?_⟩ rfl ?_ ⟨rfl,rfl,rfl,rfl,rfl,rfl,trivial⟩ ?_ trivial rfl ?_
 ·exact⟨Nat.zero_le _,by simp⟩
 ·repeat' first | exact trivial | refine⟨rfl,?_⟩
 ·repeat' exact trivial
 rintro⟨k,hk,N⟩;show W _ _ _ _ _ ⟨[(58,.d (.v (.int .i64 ((k:Nat):Int)))),(1,_),(56,_),(57,_)],[],[],0⟩;refine W.seq (W.region (pE rfl (WO.nil (qs (W.seq (bu (l:=j.kids) (k:=k) rfl (by simp[Ex.aF,au]) hk (fun x hx hd X=>?_) (fun he hd=>?_)))))));·
  rw[hd] at N;simp only[b5] at N;have a7:level≤16:=by
   by_cases q:j.op < 5;·rw[ad (by simpa using h8) q] at X;simp at X
   revert ai;simp;omega
  have a1:=J x (List.mem_of_getElem? hx) (level+1) (by omega) (by omega);refine W.skip (qs (W.seq (W.block (W.seq (W.region (pu (indexAddr aa rfl rfl rfl rfl rfl rfl (Int.natCast_nonneg _) (aM hx) rfl) rfl ?_))))));refine pE rfl (aQ aa rfl rfl rfl (ar aa rfl rfl rfl rfl rfl rfl rfl rfl (WO.nil (qs (W.seq (W.region (pE rfl (pE rfl (pu (cU (ev aa rfl) (wrap64 (by omega))) rfl ?_)))))))));refine pu (ao rfl rfl rfl a1 rfl) rfl ?_;refine pE rfl (WO.nil (qs (W.seq (W.region ?_))));iterate 2 refine pE rfl ?_
  refine WO.nil (qs (ab rfl (fun Z=>?_) (fun Z=>?_)));·
   have hc:aX x (level+1)≠0:=by simpa using Z
   rw[if_pos hc] at N;refine W.seq (W.region ?_);iterate 2 refine pE rfl ?_
   refine WO.nil (qs (W.ret (aC (an (cn (aC (an (QF.aw trivial rfl ?_))))))));clear J I;show A.d (D.v (Value.int _ _))=A.d (D.v (Value.int _ _));congr 3;rw[eK j];unfold cc;grind
  have hc:aX x (level+1)=0:=by simpa using Z
  rw[if_neg (by simp[hc])] at N;refine W.skip (be (qs (W.region ?_)));iterate 2 refine pE rfl ?_
  refine WO.nil (W.bt [] ⟨k+1,?_⟩ ?_ rfl ?_ ⟨rfl,rfl,rfl,rfl,rfl,rfl,trivial⟩ ?_ trivial rfl);·exact⟨X,N⟩
  ·dsimp only;omega
  ·repeat' first | exact trivial | refine⟨aL (by assumption) (by assumption),?_⟩
  repeat' exact trivial
 rw[hd] at N;simp only[b5] at N;refine W.exit (aW (aT (aS (qs (W.seq (W.region (pE rfl (WO.nil (qs (W.ret (QF.aw trivial rfl ?_)))))))))));clear J I;show A.d (D.v (Value.int _ _))=A.d (D.v (Value.int _ _));congr 3;rw[eK j];unfold cc;grind
end Go.Proofs.YtpiaiiopakafhaaGreatDoor
namespace Go.Proofs.YtpiaiiopakafhaaGreatDoor
open Go.Ab Go.Tb
set_option maxRecDepth 10000
set_option maxHeartbeats 1000000
attribute [local irreducible] W WO Pu QS QB QL QF QV bA CH QE
theorem uj (b:UInt8):ay Tryz.prog 187 [.d (.v (.int .u8 b.toNat))] (.d (.v (.bool (known b)))) 0:=by
 refine ay.aZ (n:=17) (ts:=[2]) Tryz.func187 (by kernel_rfl) rfl Tryz.ntmps187 Tryz.results187 rfl rfl fun C hC I=>?_;refine W.seq (W.region (pE rfl (WO.nil (qs (W.seq ?_)))));apply aG;(case hb=>rfl);·repeat' first | refine bg rfl rfl rfl | refine aH rfl rfl ?_ | refine aE rfl rfl rfl rfl ?_ | refine iv rfl rfl rfl ?_ | refine pE rfl ?_ | refine WO.nil ?_ | (apply aP;(case hj=>rfl);(case hl=>rfl))
 refine qs (W.ret (QF.aw trivial rfl ?_));show A.d (D.v (Value.bool _))=A.d (D.v (Value.bool _));congr 3;unfold known;generalize b.toNat=n;simp only[show((n:Int)=9)=(n=9) from propext (by omega),show((n:Int)=10)=(n=10) from propext (by omega),show((32:Int)≤n)=(32≤n) from propext (by omega),show((n:Int)≤126)=(n≤126) from propext (by omega)];cases decide (n=9) <;> cases decide (n=10) <;> cases decide (32≤n) <;> cases decide (n≤126) <;> rfl
theorem uq (s:ByteArray):ay Tryz.prog 173 [.d (.v (.string s))] (.d (.v (.bool (cb s)))) 0:=by
 refine ay.aZ (n:=15) (ts:=[2]) Tryz.func173 (by kernel_rfl) rfl Tryz.ntmps173 Tryz.results173 rfl rfl fun C hC O=>?_;refine W.seq (W.region (pE rfl (WO.nil (qs ?_))));iterate 2 refine W.seq ?_
 refine W.region (pE rfl (WO.nil (qs (W.block (W.jC (t:=0) rfl (fun hok=>?_))))));have hlen:=iR hok
 refine W.bh (ι:={x:Nat // match x with | k=>k≤(ak s).length∧((ak s).drop k).all known=(ak s).all known})
  (fun x=>match x.1 with | k=>[(3,.d (.v (.int .i64 ((k:Nat):Int))))]) [(0,_)]
  (fun x=>match x.1 with | k=>[]) [] [] 0 (fun x=>match x.1 with | k=>(ak s).length - k)
  [] ⟨0,?_⟩ rfl ?_ ⟨rfl,rfl,trivial⟩ ?_ trivial rfl ?_
 ·exact⟨Nat.zero_le _,rfl⟩
 ·repeat' first | exact trivial | refine⟨rfl,?_⟩
 ·repeat' exact trivial
 rintro⟨k,N,I⟩;show W _ _ _ _ _ ⟨[(3,.d (.v (.int .i64 ((k:Nat):Int)))),(0,_)],[],[],0⟩;iterate 2 refine W.seq ?_
 refine W.region ?_;iterate 4 refine pE rfl ?_
 refine WO.nil (qs (bu (l:=ak s) (k:=k) rfl (by simp[Ex.aF,au]) N (fun b U hd J=>?_) (fun he hd=>?_)));·
  rw[hd,List.all_cons] at I;refine W.skip (qs (W.seq (W.block (W.seq (W.region ?_)))));iterate 2 refine pE rfl ?_
  refine pu (db aa rfl rfl rfl rfl (Int.natCast_nonneg _) (eZ (by assumption))) rfl ?_;refine pu (ao rfl rfl rfl (uj ..) rfl) rfl ?_;refine pE rfl (WO.nil (qs (ab rfl (fun M=>?_) (fun M=>?_))));·
   refine W.seq (W.region (pE rfl (WO.nil (qs (W.ret (aC (an (cn (aC (an (QF.aw trivial rfl ?_)))))))))));simp only[norm,aI];unfold cb;rw[←I];simp_all
  refine W.skip (be (qs (W.region ?_)));iterate 3 refine pE rfl ?_
  refine WO.nil (W.bt [] ⟨k+1,?_⟩ ?_ rfl ?_ ⟨rfl,rfl,trivial⟩ ?_ trivial rfl);·exact⟨J,by rw[←I];simp_all⟩
  ·dsimp only;omega
  ·repeat' first | exact trivial | refine⟨aL (by assumption) (by assumption),?_⟩
  repeat' exact trivial
 rw[hd] at I;refine W.exit (aW (aT (aS (qs (W.seq (W.region (pE rfl (WO.nil (qs (W.ret (QF.aw trivial rfl ?_)))))))))));simp only[norm,aI];unfold cb;rw[←I];simp_all
theorem Cv (l:List ByteArray) (s:ByteArray):ay Tryz.prog 166 [.d (.sl (l.map sc)),.d (.v (.string s))] (.d (.v (.bool (l.any fun x=>decide (x=s))))) 0:=by
 refine ay.aZ (n:=18) (ts:=[4]) Tryz.func166 (by kernel_rfl) rfl Tryz.ntmps166 Tryz.results166 rfl rfl fun C hC O=>?_;refine W.seq (W.region (pE rfl (WO.nil (qs ?_))));iterate 2 refine W.seq ?_
 refine W.region (pE rfl (WO.nil (qs (W.block (W.len (t:=0) rfl rfl (fun hlen=>?_))))));try simp only[List.length_map,Ex.aF] at hlen
 refine W.bh (ι:={x:Nat // match x with | k=>k≤l.length∧(l.drop k).any (fun x=>decide (x=s))=l.any (fun x=>decide (x=s))})
  (fun x=>match x.1 with | k=>[(5,.d (.v (.int .i64 ((k:Nat):Int))))]) [(0,_),(1,_)]
  (fun x=>match x.1 with | k=>[]) [] [] 0 (fun x=>match x.1 with | k=>l.length - k)
  [] ⟨0,?_⟩ rfl ?_ ⟨rfl,rfl,rfl,rfl,trivial⟩ ?_ trivial rfl ?_
 ·exact⟨Nat.zero_le _,by simp⟩
 ·repeat' first | exact trivial | refine⟨rfl,?_⟩
 ·repeat' exact trivial
 rintro⟨k,N,I⟩;show W _ _ _ _ _ ⟨[(5,.d (.v (.int .i64 ((k:Nat):Int)))),(0,_),(1,_)],[],[],0⟩;iterate 2 refine W.seq ?_
 refine W.region ?_;iterate 4 refine pE rfl ?_
 refine WO.nil (qs (bu (l:=l) (k:=k) rfl (by simp[Ex.aF,au]) N (fun x U hd J=>?_) (fun he hd=>?_)));·
  rw[hd,List.any_cons] at I;refine W.skip (qs (W.seq (W.block (W.seq (W.region ?_)))));iterate 2 refine pE rfl ?_
  refine pu (indexAddr aa rfl rfl rfl rfl rfl rfl (Int.natCast_nonneg _) (aM (by assumption)) rfl) rfl ?_;refine pE rfl ?_;iterate 2 refine pE rfl ?_
  refine WO.nil (qs (ab rfl (fun M=>?_) (fun M=>?_)));·
   refine W.seq (W.region (pE rfl (WO.nil (qs (W.ret (aC (an (cn (aC (an (QF.aw trivial rfl ?_)))))))))));simp only[norm,aI];rw[←I];try simp_all
  refine W.skip (be (qs (W.region ?_)));iterate 3 refine pE rfl ?_
  refine WO.nil (W.bt [] ⟨k+1,?_⟩ ?_ rfl ?_ ⟨rfl,rfl,rfl,rfl,trivial⟩ ?_ trivial rfl);·exact⟨J,by rw[←I];simp_all⟩
  ·dsimp only;omega
  ·repeat' first | exact trivial | refine⟨aL (by assumption) (by assumption),?_⟩
  repeat' exact trivial
 rw[hd,List.any_nil] at I;refine W.exit (aW (aT (aS (qs (W.seq (W.region (pE rfl (WO.nil (qs (W.ret (QF.aw trivial rfl ?_)))))))))));simp only[norm,aI];rw[←I];try simp_all
theorem je (j:JV) (J:1≤j.op∧j.op≤6):cc j 0=if (j.n≠0∧j.op≠2∧j.op≠3)∨(j.s≠B #[]∧j.op≠4)∨(0 < j.kids.length∧j.op≠5∧j.op≠6) then 1
 else if (0 < j.keys.length∧j.op≠6)∨(j.op=6∧j.keys.length≠j.kids.length) then 1
 else if (j.op=2∧j.n≠0∧j.n≠1)∨(j.op=3∧eg j.n=false) then 2 else if cb j.s=false then 10 else if (j.keys.any fun s=>!cb s)=true then 10 else if dR [] j.keys=true then 4 else 0:=by
 have I:j.op=1∨j.op=2∨j.op=3∨j.op=4∨j.op=5∨j.op=6:=by omega
 unfold cc bN;clear J;generalize j.op=o at *;generalize j.keys.length=a;generalize j.kids.length=b;by_cases hs:j.s=B #[] <;> by_cases hn:j.n=0 <;> by_cases ha:a=0 <;> by_cases hb:b=0 <;> by_cases hc:a=b <;> rcases I with rfl | rfl | rfl | rfl | rfl | rfl <;> simp[hs,hn,ha,hb,hc,Nat.pos_iff_ne_zero] <;> grind
theorem bj {a b:Int} (h:a=b):A.d (D.v (Value.int .i64 a))=A.d (D.v (Value.int .i64 b)):=by rw[h]
theorem xV (j:JV) (J:¬ (1≤j.op∧j.op≤6)):ay Tryz.prog 151 [.ag j.c] (.d (.v (.int .i64 (cc j 0)))) 0:=by
 rw[eO j];refine ay.aZ (n:=135) (ts:=[2]) Tryz.func151 (by kernel_rfl) rfl Tryz.ntmps151 Tryz.results151 rfl rfl fun C hC M=>?_;refine W.seq (W.region (bK rfl rfl rfl (pE rfl (WO.nil (qs ?_)))));iterate 2 refine W.seq ?_
 refine W.region (pE rfl (pE rfl (WO.nil (qs (W.block ?_)))));iterate 2 refine W.seq ?_
 refine W.region ?_;iterate 2 refine pE rfl ?_
 refine WO.nil (qs (ab rfl (fun I=>?_) (fun I=>?_)));·exfalso;simp at I;omega
 refine W.seq (W.region ?_);iterate 2 refine pE rfl ?_
 refine WO.nil (qs (ab rfl (fun I=>?_) (fun I=>?_)));·exfalso;simp at I;omega
 refine W.seq (W.region ?_);iterate 2 refine pE rfl ?_
 refine WO.nil (qs (ab rfl (fun I=>?_) (fun I=>?_)));·exfalso;simp at I;omega
 refine W.seq (W.region ?_);iterate 2 refine pE rfl ?_
 refine WO.nil (qs (ab rfl (fun I=>?_) (fun I=>?_)));·exfalso;simp at I;omega
 refine W.seq (W.region ?_);iterate 2 refine pE rfl ?_
 refine WO.nil (qs (ab rfl (fun I=>?_) (fun I=>?_)));·exfalso;simp at I;omega
 refine W.region ?_;iterate 2 refine pE rfl ?_
 refine WO.nil (qs (ab rfl (fun I=>?_) (fun I=>?_)));·exfalso;simp at I;omega
 refine W.seq (W.region (pE rfl (WO.nil (qs (W.ret (aC (an (QF.aw trivial rfl ?_))))))));refine bj ?_;unfold cc bN;grind
theorem xJ (j:JV) (O:1≤j.op∧j.op≤6):ay Tryz.prog 151 [.ag j.c] (.d (.v (.int .i64 (cc j 0)))) 0:=by
 rw[eO j];refine ay.aZ (n:=135) (ts:=[2]) Tryz.func151 (by kernel_rfl) rfl Tryz.ntmps151 Tryz.results151 rfl rfl fun C hC hG=>?_;refine W.seq (W.region (bK rfl rfl rfl (pE rfl (WO.nil (qs ?_)))));iterate 2 refine W.seq ?_
 refine W.region (pE rfl (pE rfl (WO.nil (qs (W.mh [(1,.ptr 0 0)] [] [(0,[.d (ci j.op),.d (ci j.n),.d (cs j.s),.d (.sl (j.keys.map sc)),.d (.sl (j.kids.map JV.c))])] [] [] 1 ?_ ?_)))));·
  refine W.block ?_;iterate 2 refine W.seq ?_
  refine W.region ?_;iterate 2 refine pE rfl ?_
  refine WO.nil (qs (ab rfl (fun I=>?_) (fun I=>?_)));·
   refine W.skip (qs (W.fX rfl (W.skip (be (cO [0] rfl ?_ trivial ?_ trivial rfl)))));·repeat' first | exact trivial | refine⟨rfl,?_⟩
   repeat' first | exact trivial | refine⟨rfl,?_⟩
  refine W.seq (W.region ?_);iterate 2 refine pE rfl ?_
  refine WO.nil (qs (ab rfl (fun I=>?_) (fun I=>?_)));·
   refine W.skip (qs (W.fX rfl (W.skip (be (cO [0] rfl ?_ trivial ?_ trivial rfl)))));·repeat' first | exact trivial | refine⟨rfl,?_⟩
   repeat' first | exact trivial | refine⟨rfl,?_⟩
  refine W.seq (W.region ?_);iterate 2 refine pE rfl ?_
  refine WO.nil (qs (ab rfl (fun I=>?_) (fun I=>?_)));·
   refine W.skip (qs (W.fX rfl (W.skip (be (cO [0] rfl ?_ trivial ?_ trivial rfl)))));·repeat' first | exact trivial | refine⟨rfl,?_⟩
   repeat' first | exact trivial | refine⟨rfl,?_⟩
  refine W.seq (W.region ?_);iterate 2 refine pE rfl ?_
  refine WO.nil (qs (ab rfl (fun I=>?_) (fun I=>?_)));·
   refine W.skip (qs (W.fX rfl (W.skip (be (cO [0] rfl ?_ trivial ?_ trivial rfl)))));·repeat' first | exact trivial | refine⟨rfl,?_⟩
   repeat' first | exact trivial | refine⟨rfl,?_⟩
  refine W.seq (W.region ?_);iterate 2 refine pE rfl ?_
  refine WO.nil (qs (ab rfl (fun I=>?_) (fun I=>?_)));·
   refine W.skip (qs (W.fX rfl (W.skip (be (cO [0] rfl ?_ trivial ?_ trivial rfl)))));·repeat' first | exact trivial | refine⟨rfl,?_⟩
   repeat' first | exact trivial | refine⟨rfl,?_⟩
  refine W.region ?_;iterate 2 refine pE rfl ?_
  refine WO.nil (qs (ab rfl (fun I=>?_) (fun I=>?_)));·
   refine W.skip (be (cO [0] rfl ?_ trivial ?_ trivial rfl));·repeat' first | exact trivial | refine⟨rfl,?_⟩
   repeat' first | exact trivial | refine⟨rfl,?_⟩
  refine W.seq (W.region (pE rfl (WO.nil (qs (W.ret (aC (Gg ?_)))))));refine an (QF.aw trivial rfl ?_);refine bj ?_;first | (rw[je j O];(repeat (first | rw[if_pos (by assumption)] | rw[if_neg (by assumption)]));done) | (exfalso;simp only[decide_eq_false_iff_not] at *;omega)
 refine qs ?_;iterate 2 refine W.seq ?_
 apply aG;(case hb=>rfl);·repeat' first | refine bg rfl rfl rfl | refine aH rfl rfl ?_ | refine aE rfl rfl rfl rfl ?_ | refine iv rfl rfl rfl ?_ | refine pE rfl ?_ | refine WO.nil ?_ | (apply aP;(case hj=>rfl);(case hl=>rfl))
 refine qs (ab rfl (fun Z=>?_) (fun Z=>?_));·
  have a6:(j.n≠0∧j.op≠2∧j.op≠3)∨(j.s≠B #[]∧j.op≠4)∨(0 < j.kids.length∧j.op≠5∧j.op≠6):=by rw[List.length_map] at Z;grind
  refine W.seq (W.region (pE rfl (WO.nil (qs (W.ret (an (QF.aw trivial rfl ?_)))))));refine bj ?_;first | (rw[je j O];(repeat (first | rw[if_pos (by assumption)] | rw[if_neg (by assumption)]));done) | (exfalso;simp only[decide_eq_false_iff_not] at *;omega)
 have a6:¬ ((j.n≠0∧j.op≠2∧j.op≠3)∨(j.s≠B #[]∧j.op≠4)∨(0 < j.kids.length∧j.op≠5∧j.op≠6)):=by rw[List.length_map] at Z;grind
 clear Z;refine W.skip (qs ?_);iterate 2 refine W.seq ?_
 apply aG;(case hb=>rfl);·repeat' first | refine bg rfl rfl rfl | refine aH rfl rfl ?_ | refine aE rfl rfl rfl rfl ?_ | refine iv rfl rfl rfl ?_ | refine pE rfl ?_ | refine WO.nil ?_ | (apply aP;(case hj=>rfl);(case hl=>rfl))
 refine qs (ab rfl (fun ad=>?_) (fun ad=>?_));·
  have a7:(0 < j.keys.length∧j.op≠6)∨(j.op=6∧j.keys.length≠j.kids.length):=by simp only[List.length_map] at ad;grind
  refine W.seq (W.region (pE rfl (WO.nil (qs (W.ret (an (QF.aw trivial rfl ?_)))))));refine bj ?_;first | (rw[je j O];(repeat (first | rw[if_pos (by assumption)] | rw[if_neg (by assumption)]));done) | (exfalso;simp only[decide_eq_false_iff_not] at *;omega)
 have a7:¬ ((0 < j.keys.length∧j.op≠6)∨(j.op=6∧j.keys.length≠j.kids.length)):=by simp only[List.length_map] at ad;grind
 clear ad;refine W.skip (qs ?_);iterate 2 refine W.seq ?_
 apply aG;(case hb=>rfl);·repeat' first | refine bg rfl rfl rfl | refine aH rfl rfl ?_ | refine aE rfl rfl rfl rfl ?_ | refine iv rfl rfl rfl ?_ | refine pE rfl ?_ | refine WO.nil ?_ | refine pu (ao rfl rfl rfl (EJ ..) rfl) rfl ?_ | (apply aP;(case hj=>rfl);(case hl=>rfl))
 refine qs (ab rfl (fun aj=>?_) (fun aj=>?_));·
  have a8:(j.op=2∧j.n≠0∧j.n≠1)∨(j.op=3∧eg j.n=false):=by grind
  refine W.seq (W.region (pE rfl (WO.nil (qs (W.ret (an (QF.aw trivial rfl ?_)))))));refine bj ?_;first | (rw[je j O];(repeat (first | rw[if_pos (by assumption)] | rw[if_neg (by assumption)]));done) | (exfalso;simp only[decide_eq_false_iff_not] at *;omega)
 have a8:¬ ((j.op=2∧j.n≠0∧j.n≠1)∨(j.op=3∧eg j.n=false)):=by grind
 clear aj;refine W.skip (qs ?_);iterate 2 refine W.seq ?_
 refine W.region (pE rfl (pE rfl (pu (ao rfl rfl rfl (uq ..) rfl) rfl ?_)));refine pE rfl (WO.nil (qs (ab rfl (fun J=>?_) (fun J=>?_))));·
  have a1:cb j.s=false:=by simpa using J
  refine W.seq (W.region (pE rfl (WO.nil (qs (W.ret (an (QF.aw trivial rfl ?_)))))));refine bj ?_;first | (rw[je j O];(repeat (first | rw[if_pos (by assumption)] | rw[if_neg (by assumption)]));done) | (exfalso;simp only[decide_eq_false_iff_not] at *;omega)
 have a1:¬ cb j.s=false:=by simpa using J
 clear J;refine W.skip (qs ?_);iterate 2 refine W.seq ?_
 refine W.region (pE rfl (WO.nil (qs (W.block (kg (g:=0) (j:=3) rfl rfl (fun hlen=>?_))))));rw[List.length_map] at hlen
 refine W.bh (ι:={x:Nat // match x with | k=>k≤j.keys.length∧(j.keys.drop k).any (fun s=>!cb s)=j.keys.any (fun s=>!cb s)})
  (fun x=>match x.1 with | k=>[(1,.ptr 0 0),(3,.d (.v (.int .i64 ((k:Nat):Int))))]) []
  (fun x=>match x.1 with | k=>[(0,[.d (ci j.op),.d (ci j.n),.d (cs j.s),.d (.sl (j.keys.map sc)),.d (.sl (j.kids.map JV.c))])]) [] [] 1 (fun x=>match x.1 with | k=>j.keys.length - k)
  [0] ⟨0,?_⟩ rfl ?_ trivial ?_ trivial rfl ?_
 ·exact⟨Nat.zero_le _,by simp⟩
 ·repeat' first | exact trivial | refine⟨rfl,?_⟩
 ·repeat' first | exact trivial | refine⟨rfl,?_⟩
 rintro⟨k,hk,M⟩;show W _ _ _ _ _ ⟨[(1,.ptr 0 0),(3,.d (.v (.int .i64 ((k:Nat):Int))))],[(0,[.d (ci j.op),.d (ci j.n),.d (cs j.s),.d (.sl (j.keys.map sc)),.d (.sl (j.kids.map JV.c))])],[],1⟩;iterate 2 refine W.seq ?_
 refine W.region ?_;iterate 2 refine pE rfl ?_
 refine pE rfl ?_;iterate 2 refine pE rfl ?_
 refine WO.nil (qs (bu (l:=j.keys) (k:=k) rfl (by simp[Ex.aF,au]) hk (fun x hx hd ai=>?_) (fun he hd=>?_)));·
  rw[hd,List.any_cons] at M;refine W.skip (qs (W.seq (W.block (W.seq (W.region (pE rfl (pE rfl (pE rfl (pu (indexAddr aa rfl rfl rfl rfl rfl rfl (Int.natCast_nonneg _) (aM hx) rfl) rfl ?_)))))))));refine pE rfl (pu (ao rfl rfl rfl (uq ..) rfl) rfl ?_);refine pE rfl (WO.nil (qs (ab rfl (fun U=>?_) (fun U=>?_))));·
   have hb:cb x=false:=by simpa using U
   rw[hb] at M;simp only[Bool.not_false,Bool.true_or] at M;have qk:(j.keys.any fun s=>!cb s)=true:=M.symm;refine W.seq (W.region (pE rfl (WO.nil (qs (W.ret (aC (an (cn (aC (an (QF.aw trivial rfl ?_)))))))))));refine bj ?_;first | (rw[je j O];(repeat (first | rw[if_pos (by assumption)] | rw[if_neg (by assumption)]));done) | (exfalso;simp only[decide_eq_false_iff_not] at *;omega)
  have hb:cb x=true:=by simpa using U
  rw[hb] at M;simp only[Bool.not_true,Bool.false_or] at M;refine W.skip (be (qs (W.region ?_)));iterate 3 refine pE rfl ?_
  refine WO.nil (W.bt [0] ⟨k+1,?_⟩ ?_ rfl ?_ trivial ?_ trivial rfl);·exact⟨ai,M⟩
  ·dsimp only;omega
  ·repeat' first | exact trivial | refine⟨rfl,?_⟩ | refine⟨aL (by assumption) (by assumption),?_⟩
  repeat' first | exact trivial | refine⟨rfl,?_⟩
 rw[hd,List.any_nil] at M;have qk:¬ (j.keys.any fun s=>!cb s)=true:=by rw[←M];simp
 refine W.exit (aW (aT (aS (qs ?_))));iterate 2 refine W.seq ?_
 refine W.region (pE rfl (WO.nil (qs (W.block ?_))))
 refine W.bh (ι:={x:Nat // match x with | k=>k≤j.keys.length∧dR (j.keys.take k) (j.keys.drop k)=dR [] j.keys})
  (fun x=>match x.1 with | k=>[(1,.ptr 0 0),(4,.d (.v (.int .i64 ((k:Nat):Int))))]) []
  (fun x=>match x.1 with | k=>[(0,[.d (ci j.op),.d (ci j.n),.d (cs j.s),.d (.sl (j.keys.map sc)),.d (.sl (j.kids.map JV.c))])]) [] [] 1 (fun x=>match x.1 with | k=>j.keys.length - k)
  [0] ⟨0,?_⟩ rfl ?_ trivial ?_ trivial rfl ?_
 ·exact⟨Nat.zero_le _,by simp⟩
 ·repeat' first | exact trivial | refine⟨rfl,?_⟩
 ·repeat' first | exact trivial | refine⟨rfl,?_⟩
 rintro⟨k,hk,N⟩;show W _ _ _ _ _ ⟨[(1,.ptr 0 0),(4,.d (.v (.int .i64 ((k:Nat):Int))))],[(0,[.d (ci j.op),.d (ci j.n),.d (cs j.s),.d (.sl (j.keys.map sc)),.d (.sl (j.kids.map JV.c))])],[],1⟩;iterate 2 refine W.seq ?_
 refine W.region ?_;iterate 2 refine pE rfl ?_
 refine pE rfl ?_;iterate 2 refine pE rfl ?_
 refine WO.nil (qs (bu (l:=j.keys) (k:=k) rfl (by simp[Ex.aF,au]) hk (fun x hx hd ai=>?_) (fun he hd=>?_)));·
  rw[hd] at N;simp only[dR] at N;have b0:j.keys.take (k+1)=j.keys.take k++[x]:=by rw[List.take_add_one,hx];rfl
  refine W.skip (qs (W.seq (W.block (W.seq (W.ey aa (by kernel_rfl) ?_)))));refine aJ (ev aa rfl) rfl ?_;refine aJ (ev aa rfl) rfl ?_;refine aJ (ev aa rfl) rfl ?_;refine aJ (Gy aa rfl rfl rfl rfl rfl rfl (Int.natCast_nonneg _) (by simp;omega) (by intro y hy;obtain⟨z,_,rfl⟩:=List.mem_map.1 hy;rfl)) rfl ?_;refine aJ (ev aa rfl) rfl ?_;refine aJ (ev aa rfl) rfl ?_;refine aJ (ev aa rfl) rfl ?_;refine aJ (indexAddr aa rfl rfl rfl rfl rfl rfl (Int.natCast_nonneg _) (aM hx) rfl) rfl ?_;refine aJ (ev aa rfl) rfl ?_;refine aJ (ao rfl rfl rfl (by rw[show(((j.keys.map sc).take ((k:Int)).toNat).drop 0)=(j.keys.take k).map sc by rw[Int.toNat_natCast,List.drop_zero,List.map_take]];exact Cv _ _) rfl) rfl ?_;refine CH.nil ?_;refine qs (ab rfl (fun X=>?_) (fun X=>?_));·
   have qr:dR [] j.keys=true:=by rw[if_pos X] at N;exact N.symm
   refine W.seq (W.region (pE rfl (WO.nil (qs (W.ret (aC (an (cn (aC (an (QF.aw trivial rfl ?_)))))))))));refine bj ?_;first | (rw[je j O];(repeat (first | rw[if_pos (by assumption)] | rw[if_neg (by assumption)]));done) | (exfalso;simp only[decide_eq_false_iff_not] at *;omega)
  rw[if_neg (by rw[X];simp)] at N;refine W.skip (be (qs (W.region ?_)));iterate 3 refine pE rfl ?_
  refine WO.nil (W.bt [0] ⟨k+1,?_⟩ ?_ rfl ?_ trivial ?_ trivial rfl);·exact⟨ai,by rw[b0];exact N⟩
  ·dsimp only;omega
  ·repeat' first | exact trivial | refine⟨rfl,?_⟩ | refine⟨aL (by assumption) (by assumption),?_⟩
  repeat' first | exact trivial | refine⟨rfl,?_⟩
 rw[hd] at N;simp only[dR] at N;have qr:¬ dR [] j.keys=true:=by rw[←N];simp
 refine W.exit (aW (aT (aS (qs (W.seq (W.region (pE rfl (WO.nil (qs (W.ret (QF.aw trivial rfl ?_)))))))))));refine bj ?_;first | (rw[je j O];(repeat (first | rw[if_pos (by assumption)] | rw[if_neg (by assumption)]));done) | (exfalso;simp only[decide_eq_false_iff_not] at *;omega)
theorem wJ (j:JV):ay Tryz.prog 151 [.ag j.c] (.d (.v (.int .i64 (cc j 0)))) 0:=by
 by_cases ho:1≤j.op∧j.op≤6;·exact xJ j ho
 exact xV j ho
end Go.Proofs.YtpiaiiopakafhaaGreatDoor
namespace Go.Proofs.YtpiaiiopakafhaaGreatDoor
open Go.Ab Go.Tb
set_option maxRecDepth 10000
set_option maxHeartbeats 1000000
attribute [local irreducible] W WO Pu QS QB QL QF QV bA CH QE
theorem D5 (j:JV) (a:Int):cc j (a+1)=if cc j 0≠0 then cc j 0 else if 5≤j.op∧16≤a then 20 else 0:=by
 have I:(16 < a+1)=(16≤a):=propext (by constructor <;> intro h <;> omega);have J:¬ (5≤j.op∧(16:Int) < 0):=by omega
 unfold cc;simp only[I,if_neg J];by_cases c1:bN j=false;·simp[c1]
 by_cases c2:(j.op=2∧j.n≠0∧j.n≠1)∨(j.op=3∧eg j.n=false);·simp only[if_neg c1,if_pos c2];simp
 by_cases c3:cb j.s=false∨(j.keys.any fun s=>!cb s)=true;·simp only[if_neg c1,if_neg c2,if_pos c3];simp
 by_cases c4:dR [] j.keys=true;·simp only[if_neg c1,if_neg c2,if_neg c3,if_pos c4];simp
 simp only[if_neg c1,if_neg c2,if_neg c3,if_neg c4];simp
theorem Bw (j:JV) (h:cc j 0=0) (h5:j.op≠5) (J:j.op≠6):j.kids=[]∧¬ 5≤j.op:=by
 have I:bN j=true:=by
  by_cases c1:bN j=false;·unfold cc at h;rw[if_pos c1] at h;cases h
  simpa using c1
 unfold bN at I;rw[if_neg h5,if_neg J] at I;split at I;·simp only[Bool.and_eq_true,decide_eq_true_eq] at I;exact⟨List.length_eq_zero_iff.1 (by omega),by omega⟩
 split at I;·simp only[Bool.and_eq_true,decide_eq_true_eq] at I;exact⟨List.length_eq_zero_iff.1 (by omega),by omega⟩
 split at I;·simp only[Bool.and_eq_true,decide_eq_true_eq] at I;exact⟨List.length_eq_zero_iff.1 (by omega),by omega⟩
 cases I
theorem CA (j:JV) (a:Int):aX j (a+1)=if cc j 0≠0 then cc j 0 else if j.op≠5∧j.op≠6 then 0 else if 16≤a then 20 else b5 j.kids (a+1+1):=by
 rw[eK,D5];by_cases c1:cc j 0=0;·
  have n1:¬ cc j 0≠0:=by simp[c1]
  simp only[if_neg n1];by_cases c2:j.op≠5∧j.op≠6;·
   obtain⟨e,I⟩:=Bw j c1 c2.1 c2.2;simp only[if_pos c2,if_neg (show ¬ (5≤j.op∧16≤a) from fun h=>I h.1),e];simp[b5]
  have h5:5≤j.op:=by omega
  simp only[if_neg c2];by_cases c3:16≤a;·simp only[if_pos (show 5≤j.op∧16≤a from ⟨h5,c3⟩),if_pos c3];simp
  simp only[if_neg (show ¬ (5≤j.op∧16≤a) from fun h=>c3 h.2),if_neg c3];simp
 simp only[if_pos (show cc j 0≠0 from c1)]
theorem yQ:∀ (j:JV) (a:Int),0≤a→a≤16→ay Tryz.prog 102 [.ag j.c,.d (.v (.int .i64 a))] (.d (.v (.int .i64 (aX j (a+1))))) 0:=by
 refine JV.ind fun j ih=>?_;intro a h0 h1;have ai:=wJ j;rw[eO j] at ai ⊢;have I:=CA j a;refine ay.aZ (n:=41) (ts:=[4]) Tryz.func102 (by kernel_rfl) rfl Tryz.ntmps102 Tryz.results102 rfl rfl fun C hC hG=>?_;refine W.seq (W.region (bK rfl rfl rfl (pE rfl (WO.nil (qs (W.seq (W.region (pE rfl (pu (ao rfl rfl rfl ai rfl) rfl ?_)))))))));refine pE rfl (WO.nil (qs ?_));iterate 2 refine W.seq ?_
 refine W.region ?_;iterate 2 refine pE rfl ?_
 refine WO.nil (qs (ab rfl (fun M=>?_) (fun M=>?_)));·
  have N:cc j 0≠0:=by simpa using M
  rw[if_pos N] at I;refine W.seq (W.region ?_);iterate 2 refine pE rfl ?_
  refine WO.nil (qs (W.ret (an (QF.aw trivial rfl ?_))));refine bj ?_;first | exact I.symm | (rw[I,←J])
 have N:¬ cc j 0≠0:=by simpa using M
 rw[if_neg N] at I;refine W.skip (qs ?_);iterate 2 refine W.seq ?_
 apply aG;(case hb=>rfl);·repeat' first | refine bg rfl rfl rfl | refine aH rfl rfl ?_ | refine aE rfl rfl rfl rfl ?_ | refine pE rfl ?_ | refine WO.nil ?_ | (apply aP;(case hj=>rfl);(case hl=>rfl))
 refine qs (ab rfl (fun O=>?_) (fun O=>?_));·
  have U:j.op≠5∧j.op≠6:=by revert O;simp
  rw[if_pos U] at I;refine W.seq (W.region (pE rfl (WO.nil (qs (W.ret (an (QF.aw trivial rfl ?_)))))));refine bj ?_;first | exact I.symm | (rw[I,←J])
 have U:¬ (j.op≠5∧j.op≠6):=by revert O;simp
 rw[if_neg U] at I;refine W.skip (qs ?_);iterate 2 refine W.seq ?_
 refine W.region ?_;iterate 2 refine pE rfl ?_
 refine WO.nil (qs (ab rfl (fun X=>?_) (fun X=>?_)));·
  have Z:16≤a:=by simpa using X
  rw[if_pos Z] at I;refine W.seq (W.region (pE rfl (WO.nil (qs (W.ret (an (QF.aw trivial rfl ?_)))))));refine bj ?_;first | exact I.symm | (rw[I,←J])
 have Z:¬ 16≤a:=by simpa using X
 rw[if_neg Z] at I;refine W.skip (qs ?_);iterate 2 refine W.seq ?_
 refine W.region (pE rfl (WO.nil (qs (W.block (kg (g:=0) (j:=4) rfl rfl (fun hlen=>?_))))));rw[List.length_map] at hlen
 refine W.bh (ι:={x:Nat // match x with | k=>k≤j.kids.length∧b5 (j.kids.drop k) (a+1+1)=b5 j.kids (a+1+1)})
  (fun x=>match x.1 with | k=>[(1,.d (.v (.int .i64 a))),(2,.ptr 0 0),(6,.d (.v (.int .i64 ((k:Nat):Int))))]) []
  (fun x=>match x.1 with | k=>[(0,[.d (ci j.op),.d (ci j.n),.d (cs j.s),.d (.sl (j.keys.map sc)),.d (.sl (j.kids.map JV.c))])]) [] [] 1 (fun x=>match x.1 with | k=>j.kids.length - k)
  [0] ⟨0,?_⟩ rfl ?_ trivial ?_ trivial rfl ?_
 ·exact⟨Nat.zero_le _,by simp⟩
 ·repeat' first | exact trivial | refine⟨rfl,?_⟩
 ·repeat' first | exact trivial | refine⟨rfl,?_⟩
 rintro⟨k,hk,J⟩;show W _ _ _ _ _ ⟨[(1,.d (.v (.int .i64 a))),(2,.ptr 0 0),(6,.d (.v (.int .i64 ((k:Nat):Int))))],[(0,[.d (ci j.op),.d (ci j.n),.d (cs j.s),.d (.sl (j.keys.map sc)),.d (.sl (j.kids.map JV.c))])],[],1⟩;iterate 2 refine W.seq ?_
 refine W.region ?_;iterate 2 refine pE rfl ?_
 refine pE rfl ?_;iterate 2 refine pE rfl ?_
 refine WO.nil (qs (bu (l:=j.kids) (k:=k) rfl (by simp[Ex.aF,au]) hk (fun z hx hd aj=>?_) (fun he hd=>?_)));·
  rw[hd] at J;simp only[b5] at J;have a1:=ih z (List.mem_of_getElem? hx) (a+1) (by omega) (by omega);refine W.skip (qs (W.seq (W.block (W.seq (W.region (pE rfl (pE rfl (pE rfl (pu (indexAddr aa rfl rfl rfl rfl rfl rfl (Int.natCast_nonneg _) (aM hx) rfl) rfl ?_)))))))));refine pE rfl (pE rfl (pu (cU (ev aa rfl) (wrap64 (by omega))) rfl ?_));refine pu (ao rfl rfl rfl a1 rfl) rfl ?_;refine pE rfl (WO.nil (qs (W.seq (W.region ?_))));iterate 2 refine pE rfl ?_
  refine WO.nil (qs (ab rfl (fun ad=>?_) (fun ad=>?_)));·
   have hc:aX z (a+1+1)≠0:=by simpa using ad
   rw[if_pos hc] at J;refine W.seq (W.region ?_);iterate 2 refine pE rfl ?_
   refine WO.nil (qs (W.ret (aC (an (cn (aC (an (QF.aw trivial rfl ?_))))))));refine bj ?_;first | exact I.symm | (rw[I,←J])
  have hc:aX z (a+1+1)=0:=by simpa using ad
  rw[if_neg (by simp[hc])] at J;refine W.skip (be (qs (W.region ?_)));iterate 3 refine pE rfl ?_
  refine WO.nil (W.bt [0] ⟨k+1,?_⟩ ?_ rfl ?_ trivial ?_ trivial rfl);·exact⟨aj,J⟩
  ·dsimp only;omega
  ·repeat' first | exact trivial | refine⟨rfl,?_⟩ | refine⟨aL (by assumption) (by assumption),?_⟩
  repeat' first | exact trivial | refine⟨rfl,?_⟩
 rw[hd] at J;simp only[b5] at J;refine W.exit (aW (aT (aS (qs (W.seq (W.region (pE rfl (WO.nil (qs (W.ret (QF.aw trivial rfl ?_)))))))))));refine bj ?_;first | exact I.symm | (rw[I,←J])
theorem zw (j:JV):ay Tryz.prog 60 [.ag j.c] (.d (.v (.int .i64 (aX j 1)))) 0:=by have h:=yQ j 0 (by omega) (by omega);rw[eO j] at h ⊢;refine ay.aZ (n:=5) (ts:=[2]) Tryz.func60 (by kernel_rfl) rfl Tryz.ntmps60 Tryz.results60 rfl rfl fun C hC I=>?_;refine W.seq (W.region (bK rfl rfl rfl (pE rfl (WO.nil (qs (W.seq (W.region (pE rfl (pu (ao rfl rfl rfl h rfl) rfl ?_)))))))));refine pE rfl (WO.nil (qs (W.ret (QF.aw trivial rfl ?_))));rfl
theorem tQ (j:JV):ay Tryz.prog 50 [.ag j.c] (.d (.v (.int .i64 (aX j 1)))) 0:=by have h:=AJ j 1 (by omega) (by omega);rw[eO j] at h ⊢;refine ay.aZ (n:=5) (ts:=[2]) Tryz.func50 (by kernel_rfl) rfl Tryz.ntmps50 Tryz.results50 rfl rfl fun C hC I=>?_;refine W.seq (W.region (bK rfl rfl rfl (pE rfl (WO.nil (qs (W.seq (W.region (pE rfl (pu (ao rfl rfl rfl h rfl) rfl ?_)))))))));refine pE rfl (WO.nil (qs (W.ret (QF.aw trivial rfl ?_))));rfl
end Go.Proofs.YtpiaiiopakafhaaGreatDoor
namespace Go.Proofs.YtpiaiiopakafhaaGreatDoor
open Go.Ab Go.Tb
set_option maxRecDepth 10000
set_option maxHeartbeats 1000000
attribute [local irreducible] W WO Pu QS QB QL QF QV bA CH QE
def oJ (o:Option JV):JV:=o.getD cG
theorem w9 {j:JV} {key:ByteArray} (h:j.op≠6):bp j key=none:=by unfold bp;rw[if_neg h]
theorem qG {j:JV} {key:ByteArray} {k:Nat} (h:j.op=6) (hi:(j.keys.findIdx? fun x=>decide (key=x))=some k):bp j key=j.kids[k]?:=by unfold bp;rw[if_pos h,hi]
theorem sL {j:JV} {key:ByteArray} (hi:(j.keys.findIdx? fun x=>decide (key=x))=none):bp j key=none:=by unfold bp;rw[hi];simp
theorem pj (j:JV) (key:ByteArray):ay Tryz.prog 62 [.ag j.c,.d (.v (.string key))] (.tup [.ag (oJ (bp j key)).c,.d (.v (.bool (bp j key).isSome))]) 0:=by
 rw[eO j];refine ay.cX aa (n:=37) (rs:=[.cell 4 46,.tmp 5]) Tryz.func62 (by kernel_rfl) rfl Tryz.ntmps62 Tryz.results62 rfl fun C hC hG=>?_;refine W.seq (W.region (bK rfl rfl rfl (aQ aa rfl rfl rfl (pE rfl (WO.nil (qs ?_))))));iterate 2 refine W.seq ?_
 refine W.region (pE rfl (pE rfl (pE rfl (WO.nil (qs (ab rfl (fun U=>?_) (fun U=>?_)))))));·
  have J:bp j key=none:=w9 (by simpa using U);refine W.seq (W.region (pu (build aa rfl rfl rfl rfl) rfl ?_));try refine gf 10 rfl rfl rfl ?_
  refine ar aa rfl rfl rfl rfl rfl rfl rfl rfl (pE rfl (WO.nil (qs (W.ret (an (QV.aw aa trivial rfl ?_))))));rw[J];rfl
 have X:j.op=6:=by simpa using U
 refine W.skip (qs ?_);iterate 2 refine W.seq ?_
 refine W.region (pE rfl (WO.nil (qs (W.block (kg (g:=0) (j:=3) rfl rfl (fun hlen=>?_))))));rw[List.length_map] at hlen
 refine W.bh (ι:={x:Nat // match x with | k=>k≤j.keys.length∧((j.keys.drop k).findIdx? fun x=>decide (key=x)).map (fun i=>i+k)=(j.keys.findIdx? fun x=>decide (key=x))})
  (fun x=>match x.1 with | k=>[(1,.d (.v (.string key))),(2,.ptr 0 0),(4,.ptr 1 0),(6,.d (.v (.int .i64 ((k:Nat):Int))))]) []
  (fun x=>match x.1 with | k=>[(0,[.d (ci j.op),.d (ci j.n),.d (cs j.s),.d (.sl (j.keys.map sc)),.d (.sl (j.kids.map JV.c))])]) [(1,_)] [] 2 (fun x=>match x.1 with | k=>j.keys.length - k)
  [0,1] ⟨0,?_⟩ rfl ?_ trivial ?_ ⟨rfl,rfl,trivial⟩ rfl ?_
 ·exact⟨Nat.zero_le _,by simp⟩
 ·repeat' first | exact trivial | refine⟨rfl,?_⟩
 ·repeat' first | exact trivial | refine⟨rfl,?_⟩
 rintro⟨k,hk,N⟩;show W _ _ _ _ _ ⟨[(1,.d (.v (.string key))),(2,.ptr 0 0),(4,.ptr 1 0),(6,.d (.v (.int .i64 ((k:Nat):Int))))],[(0,[.d (ci j.op),.d (ci j.n),.d (cs j.s),.d (.sl (j.keys.map sc)),.d (.sl (j.kids.map JV.c))]),(1,_)],[],2⟩;iterate 2 refine W.seq ?_
 refine W.region ?_;iterate 2 refine pE rfl ?_
 refine pE rfl ?_;iterate 2 refine pE rfl ?_
 refine WO.nil (qs (bu (l:=j.keys) (k:=k) rfl (by simp[Ex.aF,au]) hk (fun x hx hd Z=>?_) (fun he hd=>?_)));·
  rw[hd,List.findIdx?_cons] at N;refine W.skip (qs (W.seq (W.block (W.seq (W.region (pE rfl (pE rfl (pE rfl (pu (indexAddr aa rfl rfl rfl rfl rfl rfl (Int.natCast_nonneg _) (aM hx) rfl) rfl ?_)))))))));refine pE rfl ?_;iterate 2 refine pE rfl ?_
  refine WO.nil (qs (ab rfl (fun I=>?_) (fun I=>?_)));·
   have hi:(j.keys.findIdx? fun x=>decide (key=x))=some k:=by rw[←N,if_pos (by simp at I ⊢;exact I.symm)];simp
   have O:=qG X hi;iterate 2 refine W.seq ?_
   refine W.region ?_;iterate 2 refine pE rfl ?_
   refine pE rfl ?_;iterate 2 refine pE rfl ?_
   refine WO.nil (qs (ab rfl (fun M=>?_) (fun M=>?_)));·
    have J:bp j key=none:=by rw[O];simp at M ⊢;omega
    refine W.seq (W.region (pu (build aa rfl rfl rfl rfl) rfl ?_));try refine gf 30 rfl rfl rfl ?_
    refine ar aa rfl rfl rfl rfl rfl rfl rfl rfl (pE rfl (WO.nil (qs (W.ret (an (aC (an (cn (aC (an (QV.aw aa trivial rfl ?_)))))))))));rw[J];rfl
   obtain⟨y,hy⟩:∃ y,j.kids[k]? = some y:=by simp at M;exact⟨j.kids[k],by simp[M]⟩
   have J:bp j key=some y:=by rw[O,hy]
   refine W.skip (qs (W.seq (W.region (pE rfl (pE rfl (pE rfl (pu (indexAddr (l:=y.c) aa rfl rfl rfl rfl rfl rfl (Int.natCast_nonneg _) (aM hy) rfl) rfl ?_)))))));refine pE rfl (ar aa rfl rfl rfl rfl rfl rfl rfl rfl (pE rfl (WO.nil (qs (W.ret (aC (an (cn (aC (an (QV.aw aa trivial rfl ?_)))))))))));rw[J];rfl
  rw[if_neg (by simp at I ⊢;exact fun e=>I e.symm)] at N;refine W.skip (be (qs (W.region ?_)));iterate 3 refine pE rfl ?_
  refine WO.nil (W.bt [0,1] ⟨k+1,?_⟩ ?_ rfl ?_ trivial ?_ ⟨rfl,rfl,trivial⟩ rfl);·exact⟨Z,by rw[←N,Option.map_map];exact congrArg (fun f=>Option.map f _) (funext fun i=>(by show i+(k+1)=i+1+k;omega))⟩
  ·dsimp only;omega
  ·repeat' first | exact trivial | refine⟨rfl,?_⟩ | refine⟨aL (by assumption) (by assumption),?_⟩
  repeat' first | exact trivial | refine⟨rfl,?_⟩
 rw[hd] at N;have J:bp j key=none:=sL (by rw[←N];rfl);refine W.exit (aW (aT (aS (qs (W.seq (W.region (pu (build aa rfl rfl rfl rfl) rfl ?_)))))));try refine gf 36 rfl rfl rfl ?_
 refine ar aa rfl rfl rfl rfl rfl rfl rfl rfl (pE rfl (WO.nil (qs (W.ret (QV.aw aa trivial rfl ?_)))));rw[J];rfl
theorem Df (j:JV) (key:ByteArray):ay Tryz.prog 96 [.ag j.c,.d (.v (.string key))] (.tup [.ag (oJ (bp j key)).c,.d (.v (.bool (bp j key).isSome))]) 0:=by
 rw[eO j];refine ay.cX aa (n:=31) (rs:=[.cell 4 46,.tmp 5]) Tryz.func96 (by kernel_rfl) rfl Tryz.ntmps96 Tryz.results96 rfl fun C hC U=>?_;refine W.seq (W.region (bK rfl rfl rfl (aQ aa rfl rfl rfl (pE rfl (WO.nil (qs (W.seq (W.region (pE rfl (pE rfl (pE rfl (pu (ao rfl rfl rfl (vv j.keys key) rfl) rfl ?_))))))))))));refine pE rfl (WO.nil (qs ?_));iterate 2 refine W.seq ?_
 apply aG;(case hb=>rfl);·repeat' first | refine bg rfl rfl rfl | refine aH rfl rfl ?_ | refine aE rfl rfl rfl rfl ?_ | refine pE rfl ?_ | refine WO.nil ?_ | (apply aP;(case hj=>rfl);(case hl=>rfl))
 refine qs (ab rfl (fun I=>?_) (fun I=>?_));·
  have M:bp j key=none:=by
   by_cases ho:j.op=6;·
    cases hi:(j.keys.findIdx? fun x=>decide (key=x)) with
    | none=>exact sL hi
    | some k=>rw[qG ho hi];rw[hi,show idx (some k)=(k:Int) from rfl] at I;simp[ho] at I ⊢;omega
   exact w9 ho
  refine W.seq (W.region (pu (build aa rfl rfl rfl rfl) rfl ?_));try refine gf 25 rfl rfl rfl ?_
  refine ar aa rfl rfl rfl rfl rfl rfl rfl rfl (pE rfl (WO.nil (qs (W.ret (an (QV.aw aa trivial rfl ?_))))));rw[M];rfl
 obtain⟨k,y,N,O,M⟩:∃ (k:Nat) (y:JV),idx (j.keys.findIdx? fun x=>decide (key=x))=(k:Int)∧j.kids[k]? = some y∧bp j key=some y:=by
  by_cases ho:j.op=6;·
   cases hi:(j.keys.findIdx? fun x=>decide (key=x)) with
   | none=>rw[hi] at I;simp[idx] at I
   | some k=>
    rw[hi] at I;rw[show idx (some k)=(k:Int) from rfl] at I;have J:k < j.kids.length:=by simp[ho] at I;omega
    exact⟨k,j.kids[k],rfl,by simp[J],by rw[qG ho hi];simp[J]⟩
  simp[ho] at I
 rw[N];refine W.skip (qs (W.seq (W.region (pE rfl (pE rfl (pE rfl (pu (indexAddr (l:=y.c) aa rfl rfl rfl rfl rfl rfl (Int.natCast_nonneg _) (aM O) rfl) rfl ?_)))))));refine pE rfl (ar aa rfl rfl rfl rfl rfl rfl rfl rfl (pE rfl (WO.nil (qs (W.ret (QV.aw aa trivial rfl ?_))))));rw[M];rfl
end Go.Proofs.YtpiaiiopakafhaaGreatDoor
namespace Go.Proofs.YtpiaiiopakafhaaGreatDoor
open Go.Ab Go.Tb
set_option maxRecDepth 10000
set_option maxHeartbeats 1000000
attribute [local irreducible] W WO Pu QS QB QL QF QV bA CH QE
theorem lK:ay Tryz.prog 53 [] (.d (.sl (eH.map Fm.c))) 0:=by refine ay.aZ (n:=14) (ts:=[0]) Tryz.func53 (by kernel_rfl) rfl Tryz.ntmps53 Tryz.results53 rfl rfl fun C hC I=>?_;refine W.seq (W.region (pE rfl (WO.nil (qs (W.seq (W.region (pu (build aa rfl rfl rfl rfl) rfl ?_)))))));refine pu (build aa rfl rfl rfl rfl) rfl ?_;refine pu (build aa rfl rfl rfl rfl) rfl ?_;refine pu (build aa rfl rfl rfl rfl) rfl ?_;refine pu (build aa rfl rfl rfl rfl) rfl ?_;refine pu (build aa rfl rfl rfl rfl) rfl ?_;refine pu (build aa rfl rfl rfl rfl) rfl ?_;refine pu (build aa rfl rfl rfl rfl) rfl ?_;refine pu (build aa rfl rfl rfl rfl) rfl ?_;refine pu (build aa rfl rfl rfl rfl) rfl ?_;refine pu (build aa rfl rfl rfl rfl) rfl ?_;refine pu (build aa rfl rfl rfl rfl) rfl ?_;refine pu (ba aa rfl rfl rfl rfl rfl rfl rfl rfl rfl) rfl ?_;refine pE rfl (WO.nil (qs (W.ret (QF.aw trivial rfl ?_))));rfl
theorem qJ (fid:Nat) (caps:List A) (I:Still caps) (p:Fm→Bool) (hp:∀ x:Fm,ay Tryz.prog fid (.ag x.c::caps) (.d (.v (.bool (p x)))) 0) (l:List Fm) :
 ay Tryz.prog 52 [.d (.sl (l.map Fm.c)),.clo fid caps] (.d (.v (.int .i64 (idx (l.findIdx? p))))) 0:=by
 refine ay.aZ (n:=19) (ts:=[4]) Tryz.func52 (by kernel_rfl) rfl Tryz.ntmps52 Tryz.results52 rfl rfl fun C hC X=>?_;refine W.seq (W.region (pE rfl (WO.nil (qs ?_))));iterate 2 refine W.seq ?_
 refine W.region ?_;iterate 3 refine pE rfl ?_
 refine WO.nil (qs (W.block (W.len (t:=0) rfl rfl (fun hlen=>?_))));try simp only[List.length_map,Ex.aF] at hlen
 refine W.bh (ι:={x:Nat // match x with | k=>k≤l.length∧bJ p l k})
  (fun x=>match x.1 with | k=>[(8,.d (.v (.int .i64 ((k:Nat):Int))))]) [(0,_),(1,_),(7,_)]
  (fun x=>match x.1 with | k=>[]) [] [] 0 (fun x=>match x.1 with | k=>l.length - k)
  [] ⟨0,?_⟩ rfl ?_ ⟨rfl,(by first | rfl | exact I.2),rfl,(by first | rfl | exact I.2),rfl,(by first | rfl | exact I.2),trivial⟩ ?_ trivial rfl ?_
 ·exact⟨Nat.zero_le _,bJ.zero⟩
 ·repeat' first | exact trivial | refine⟨rfl,?_⟩
 ·repeat' exact trivial
 rintro⟨k,U,M⟩;show W _ _ _ _ _ ⟨[(8,.d (.v (.int .i64 ((k:Nat):Int)))),(0,_),(1,_),(7,_)],[],[],0⟩;refine W.seq (W.region (pE rfl (WO.nil (qs (W.seq (bu (l:=l) (k:=k) rfl (by simp[Ex.aF,au]) U (fun x N hd O=>?_) (fun he hd=>?_)))))));·
  refine W.skip (qs (W.seq (W.block (W.seq (W.region ?_)))));iterate 2 refine pE rfl ?_
  refine WO.nil (qs (W.seq (W.region ?_)));iterate 3 refine pE rfl ?_
  refine pu (indexAddr aa rfl rfl rfl rfl rfl rfl (Int.natCast_nonneg _) (aM (by assumption)) rfl) rfl ?_;refine pE rfl (pu (ao rfl rfl (by rw[List.map_append,I.1 _ 3];rfl) (hp x) rfl) rfl ?_);refine WO.nil (qs (ab rfl (fun J=>?_) (fun J=>?_)));·
   refine W.seq (W.region ?_);iterate 2 refine pE rfl ?_
   refine WO.nil (qs (W.ret (aC (an (cn (aC (an (QF.aw trivial rfl ?_))))))));simp only[norm,aI];rw[M.found N J];rfl
  refine W.skip (be (qs (W.region ?_)));iterate 2 refine pE rfl ?_
  refine WO.nil (W.bt [] ⟨k+1,?_⟩ ?_ rfl ?_ ⟨rfl,(by first | rfl | exact I.2),rfl,(by first | rfl | exact I.2),rfl,(by first | rfl | exact I.2),trivial⟩ ?_ trivial rfl);·exact⟨O,M.step N J⟩
  ·dsimp only;omega
  ·repeat' first | exact trivial | refine⟨aL (by assumption) (by assumption),?_⟩
  repeat' exact trivial
 refine W.exit (aW (aT (aS (qs (W.seq (W.region (pE rfl (WO.nil (qs (W.ret (QF.aw trivial rfl ?_)))))))))));simp only[norm,aI];rw[M.end_ he];rfl
theorem Du (ph:ByteArray) (f:Fm):ay Tryz.prog 54 [.ag f.c,.row [.d (.v (.string ph))]] (.d (.v (.bool (decide (f.ph=ph))))) 0:=by
 refine ay.aZ (n:=8) (ts:=[3]) Tryz.func54 (by kernel_rfl) rfl Tryz.ntmps54 Tryz.results54 rfl rfl fun C hC I=>?_;refine W.seq (W.region (bK rfl rfl rfl (pE rfl (WO.nil (qs (W.seq (W.region (pE rfl (pE rfl (pE rfl ?_))))))))));iterate 2 refine pE rfl ?_
 refine WO.nil (qs (W.ret (QF.aw trivial rfl ?_)));rfl
theorem Af (e:Ev) (f:Fm):ay Tryz.prog 88 [.ag f.c,.row (e.c.map A.d)] (.d (.v (.bool (decide (f.kind=e.kind))))) 0:=by
 refine ay.aZ (n:=9) (ts:=[3]) Tryz.func88 (by kernel_rfl) rfl Tryz.ntmps88 Tryz.results88 rfl rfl fun C hC I=>?_;refine W.seq (W.region (bK rfl rfl rfl (pE rfl (WO.nil (qs (W.seq (W.region (pE rfl (pE rfl (pE rfl (pE rfl ?_)))))))))));iterate 2 refine pE rfl ?_
 refine WO.nil (qs (W.ret (QF.aw trivial rfl ?_)));rfl
theorem sA (f:Fm) (on:Bool):ay Tryz.prog 58 [.ag f.c,.d (.v (.bool on))] (.d (.sl ((dJ f on).map sc))) 0:=by
 refine ay.aZ (n:=47) (ts:=[4]) Tryz.func58 (by kernel_rfl) rfl Tryz.ntmps58 Tryz.results58 rfl rfl fun C hC U=>?_;refine W.seq (W.region (bK rfl rfl rfl (pE rfl (WO.nil (qs (W.seq (W.region (pu (Dq aa rfl rfl rfl rfl rfl rfl rfl rfl rfl) rfl ?_))))))));refine pE rfl (WO.nil (qs ?_));iterate 2 refine W.seq ?_
 refine W.region (pE rfl (pE rfl (WO.nil (qs (ab rfl (fun O=>?_) (fun O=>?_))))));·
  refine W.region (pE rfl (pu (ba aa rfl rfl rfl rfl rfl rfl rfl rfl rfl) rfl ?_));refine vD aa rfl rfl rfl rfl rfl rfl rfl rfl rfl rfl rfl rfl (ja rfl) (Nat.le_of_ble_eq_true rfl) ?_;refine pE rfl (WO.nil (qs (W.seq (W.region (pE rfl (pu (ba aa rfl rfl rfl rfl rfl rfl rfl rfl rfl) rfl ?_))))));refine gg aa rfl rfl rfl rfl rfl rfl rfl rfl rfl rfl rfl rfl rfl rfl ?_;refine pE rfl (WO.nil (qs ?_));iterate 2 refine W.seq ?_
  refine W.region (pE rfl (pE rfl (WO.nil (qs (W.block (W.seq (W.region ?_)))))));iterate 2 refine pE rfl ?_
  refine WO.nil (qs (ab rfl (fun J=>?_) (fun J=>?_)));·
   refine W.seq (W.region (pE rfl (pu (ba aa rfl rfl rfl rfl rfl rfl rfl rfl rfl) rfl ?_)));refine gg aa rfl rfl rfl rfl rfl rfl rfl rfl rfl rfl rfl rfl rfl rfl ?_;refine pE rfl (WO.nil (qs (W.ret (aC (an (QF.aw trivial rfl ?_))))));simp only[norm,aI,dJ];simp_all[pP,pN,bq,dz,bP,bk,cT,aR,b6,eW,cF];try exact if_neg (fun h=>by have:=I h.1;rw[this] at h;cases h.2)
  refine W.seq (W.region ?_);iterate 2 refine pE rfl ?_
  refine WO.nil (qs (ab rfl (fun M=>?_) (fun M=>?_)));·
   refine W.seq (W.region (pE rfl (pu (ba aa rfl rfl rfl rfl rfl rfl rfl rfl rfl) rfl ?_)));refine gg aa rfl rfl rfl rfl rfl rfl rfl rfl rfl rfl rfl rfl rfl rfl ?_;refine pE rfl (WO.nil (qs (W.ret (aC (an (QF.aw trivial rfl ?_))))));simp only[norm,aI,dJ];simp_all[pP,pN,bq,dz,bP,bk,cT,aR,b6,eW,cF];try exact if_neg (fun h=>by have:=I h.1;rw[this] at h;cases h.2)
  refine W.skip (be (qs ?_));iterate 2 refine W.seq ?_
  refine W.region (pE rfl (pE rfl (pE rfl (WO.nil (qs (ab rfl (fun N=>?_) (fun N=>?_)))))));·
   refine W.region ?_;iterate 2 refine pE rfl ?_
   refine pE rfl (pu (ba aa rfl rfl rfl rfl rfl rfl rfl rfl rfl) rfl ?_);refine gg aa rfl rfl rfl rfl rfl rfl rfl rfl rfl rfl rfl rfl rfl rfl ?_;refine pE rfl (WO.nil (qs ?_));iterate 2 refine W.seq ?_
   apply aG;(case hb=>rfl);·repeat' first | refine bg rfl rfl rfl | refine aH rfl rfl ?_ | refine aE rfl rfl rfl rfl ?_ | refine pE rfl ?_ | refine WO.nil ?_ | (apply aP;(case hj=>rfl);(case hl=>rfl))
   refine qs (ab rfl (fun I=>?_) (fun I=>?_));·
    refine W.region ?_;iterate 2 refine pE rfl ?_
    refine pE rfl (pu (ba aa rfl rfl rfl rfl rfl rfl rfl rfl rfl) rfl ?_);refine gg aa rfl rfl rfl rfl rfl rfl rfl rfl rfl rfl rfl rfl rfl rfl ?_;refine pE rfl (WO.nil (qs (W.seq (W.region ?_))));iterate 2 refine pE rfl ?_
    refine WO.nil (qs (W.ret (QF.aw trivial rfl ?_)));simp only[norm,aI,dJ];simp_all[pP,pN,bq,dz,bP,bk,cT,aR,b6,eW,cF];try exact if_neg (fun h=>by have:=I h.1;rw[this] at h;cases h.2)
   refine W.skip (qs (W.seq (W.region ?_)));iterate 2 refine pE rfl ?_
   refine WO.nil (qs (W.ret (QF.aw trivial rfl ?_)));simp only[norm,aI,dJ];simp_all[pP,pN,bq,dz,bP,bk,cT,aR,b6,eW,cF];try exact if_neg (fun h=>by have:=I h.1;rw[this] at h;cases h.2)
  refine W.skip (qs ?_);iterate 2 refine W.seq ?_
  apply aG;(case hb=>rfl);·repeat' first | refine bg rfl rfl rfl | refine aH rfl rfl ?_ | refine aE rfl rfl rfl rfl ?_ | refine pE rfl ?_ | refine WO.nil ?_ | (apply aP;(case hj=>rfl);(case hl=>rfl))
  refine qs (ab rfl (fun I=>?_) (fun I=>?_));·
   refine W.region ?_;iterate 2 refine pE rfl ?_
   refine pE rfl (pu (ba aa rfl rfl rfl rfl rfl rfl rfl rfl rfl) rfl ?_);refine gg aa rfl rfl rfl rfl rfl rfl rfl rfl rfl rfl rfl rfl rfl rfl ?_;refine pE rfl (WO.nil (qs (W.seq (W.region ?_))));iterate 2 refine pE rfl ?_
   refine WO.nil (qs (W.ret (QF.aw trivial rfl ?_)));simp only[norm,aI,dJ];simp_all[pP,pN,bq,dz,bP,bk,cT,aR,b6,eW,cF];try exact if_neg (fun h=>by have:=I h.1;rw[this] at h;cases h.2)
  refine W.skip (qs (W.seq (W.region ?_)));iterate 2 refine pE rfl ?_
  refine WO.nil (qs (W.ret (QF.aw trivial rfl ?_)));simp only[norm,aI,dJ];simp_all[pP,pN,bq,dz,bP,bk,cT,aR,b6,eW,cF];try exact if_neg (fun h=>by have:=I h.1;rw[this] at h;cases h.2)
 refine W.skip (qs (W.seq (W.region (pE rfl (pu (ba aa rfl rfl rfl rfl rfl rfl rfl rfl rfl) rfl ?_)))));refine vD aa rfl rfl rfl rfl rfl rfl rfl rfl rfl rfl rfl rfl (ja rfl) (Nat.le_of_ble_eq_true rfl) ?_;refine pE rfl (WO.nil (qs ?_));iterate 2 refine W.seq ?_
 refine W.region (pE rfl (pE rfl (WO.nil (qs (W.block (W.seq (W.region ?_)))))));iterate 2 refine pE rfl ?_
 refine WO.nil (qs (ab rfl (fun J=>?_) (fun J=>?_)));·
  refine W.seq (W.region (pE rfl (pu (ba aa rfl rfl rfl rfl rfl rfl rfl rfl rfl) rfl ?_)));refine gg aa rfl rfl rfl rfl rfl rfl rfl rfl rfl rfl rfl rfl rfl rfl ?_;refine pE rfl (WO.nil (qs (W.ret (aC (an (QF.aw trivial rfl ?_))))));simp only[norm,aI,dJ];simp_all[pP,pN,bq,dz,bP,bk,cT,aR,b6,eW,cF];try exact if_neg (fun h=>by have:=I h.1;rw[this] at h;cases h.2)
 refine W.seq (W.region ?_);iterate 2 refine pE rfl ?_
 refine WO.nil (qs (ab rfl (fun M=>?_) (fun M=>?_)));·
  refine W.seq (W.region (pE rfl (pu (ba aa rfl rfl rfl rfl rfl rfl rfl rfl rfl) rfl ?_)));refine gg aa rfl rfl rfl rfl rfl rfl rfl rfl rfl rfl rfl rfl rfl rfl ?_;refine pE rfl (WO.nil (qs (W.ret (aC (an (QF.aw trivial rfl ?_))))));simp only[norm,aI,dJ];simp_all[pP,pN,bq,dz,bP,bk,cT,aR,b6,eW,cF];try exact if_neg (fun h=>by have:=I h.1;rw[this] at h;cases h.2)
 refine W.skip (be (qs ?_));iterate 2 refine W.seq ?_
 refine W.region (pE rfl (pE rfl (pE rfl (WO.nil (qs (ab rfl (fun N=>?_) (fun N=>?_)))))));·
  refine W.region ?_;iterate 2 refine pE rfl ?_
  refine pE rfl (pu (ba aa rfl rfl rfl rfl rfl rfl rfl rfl rfl) rfl ?_);refine gg aa rfl rfl rfl rfl rfl rfl rfl rfl rfl rfl rfl rfl rfl rfl ?_;refine pE rfl (WO.nil (qs ?_));iterate 2 refine W.seq ?_
  apply aG;(case hb=>rfl);·repeat' first | refine bg rfl rfl rfl | refine aH rfl rfl ?_ | refine aE rfl rfl rfl rfl ?_ | refine pE rfl ?_ | refine WO.nil ?_ | (apply aP;(case hj=>rfl);(case hl=>rfl))
  refine qs (ab rfl (fun I=>?_) (fun I=>?_));·
   refine W.region ?_;iterate 2 refine pE rfl ?_
   refine pE rfl (pu (ba aa rfl rfl rfl rfl rfl rfl rfl rfl rfl) rfl ?_);refine gg aa rfl rfl rfl rfl rfl rfl rfl rfl rfl rfl rfl rfl rfl rfl ?_;refine pE rfl (WO.nil (qs (W.seq (W.region ?_))));iterate 2 refine pE rfl ?_
   refine WO.nil (qs (W.ret (QF.aw trivial rfl ?_)));simp only[norm,aI,dJ];simp_all[pP,pN,bq,dz,bP,bk,cT,aR,b6,eW,cF];try exact if_neg (fun h=>by have:=I h.1;rw[this] at h;cases h.2)
  refine W.skip (qs (W.seq (W.region ?_)));iterate 2 refine pE rfl ?_
  refine WO.nil (qs (W.ret (QF.aw trivial rfl ?_)));simp only[norm,aI,dJ];simp_all[pP,pN,bq,dz,bP,bk,cT,aR,b6,eW,cF];try exact if_neg (fun h=>by have:=I h.1;rw[this] at h;cases h.2)
 refine W.skip (qs ?_);iterate 2 refine W.seq ?_
 apply aG;(case hb=>rfl);·repeat' first | refine bg rfl rfl rfl | refine aH rfl rfl ?_ | refine aE rfl rfl rfl rfl ?_ | refine pE rfl ?_ | refine WO.nil ?_ | (apply aP;(case hj=>rfl);(case hl=>rfl))
 refine qs (ab rfl (fun I=>?_) (fun I=>?_));·
  refine W.region ?_;iterate 2 refine pE rfl ?_
  refine pE rfl (pu (ba aa rfl rfl rfl rfl rfl rfl rfl rfl rfl) rfl ?_);refine gg aa rfl rfl rfl rfl rfl rfl rfl rfl rfl rfl rfl rfl rfl rfl ?_;refine pE rfl (WO.nil (qs (W.seq (W.region ?_))));iterate 2 refine pE rfl ?_
  refine WO.nil (qs (W.ret (QF.aw trivial rfl ?_)));simp only[norm,aI,dJ];simp_all[pP,pN,bq,dz,bP,bk,cT,aR,b6,eW,cF];try exact if_neg (fun h=>by have:=I h.1;rw[this] at h;cases h.2)
 refine W.skip (qs (W.seq (W.region ?_)));iterate 2 refine pE rfl ?_
 refine WO.nil (qs (W.ret (QF.aw trivial rfl ?_)));simp only[norm,aI,dJ];simp_all[pP,pN,bq,dz,bP,bk,cT,aR,b6,eW,cF];try exact if_neg (fun h=>by have:=I h.1;rw[this] at h;cases h.2)
def AP (caps:List A):Prop:=(∀ bx k,caps.map (conv bx (k+3))=caps)∧jr caps=true
theorem yq (fid:Nat) (caps:List A) (I:AP caps) (p:ByteArray→Bool) (hp:∀ x:ByteArray,ay Tryz.prog fid (.d (.v (.string x))::caps) (.d (.v (.bool (p x)))) 0) (l:List ByteArray) :
 ay Tryz.prog 148 [.d (.sl (l.map sc)),.clo fid caps] (.d (.v (.int .i64 (idx (l.findIdx? p))))) 0:=by
 refine ay.aZ (n:=19) (ts:=[4]) Tryz.func148 (by kernel_rfl) rfl Tryz.ntmps148 Tryz.results148 rfl rfl fun C hC X=>?_;refine W.seq (W.region (pE rfl (WO.nil (qs ?_))));iterate 2 refine W.seq ?_
 refine W.region ?_;iterate 3 refine pE rfl ?_
 refine WO.nil (qs (W.block (W.len (t:=0) rfl rfl (fun hlen=>?_))));try simp only[List.length_map,Ex.aF] at hlen
 refine W.bh (ι:={x:Nat // match x with | k=>k≤l.length∧bJ p l k})
  (fun x=>match x.1 with | k=>[(8,.d (.v (.int .i64 ((k:Nat):Int))))]) [(0,_),(1,_),(7,_)]
  (fun x=>match x.1 with | k=>[]) [] [] 0 (fun x=>match x.1 with | k=>l.length - k)
  [] ⟨0,?_⟩ rfl ?_ ⟨rfl,(by first | rfl | exact I.2),rfl,(by first | rfl | exact I.2),rfl,(by first | rfl | exact I.2),trivial⟩ ?_ trivial rfl ?_
 ·exact⟨Nat.zero_le _,bJ.zero⟩
 ·repeat' first | exact trivial | refine⟨rfl,?_⟩
 ·repeat' exact trivial
 rintro⟨k,U,M⟩;show W _ _ _ _ _ ⟨[(8,.d (.v (.int .i64 ((k:Nat):Int)))),(0,_),(1,_),(7,_)],[],[],0⟩;refine W.seq (W.region (pE rfl (WO.nil (qs (W.seq (bu (l:=l) (k:=k) rfl (by simp[Ex.aF,au]) U (fun x N hd O=>?_) (fun he hd=>?_)))))));·
  refine W.skip (qs (W.seq (W.block (W.seq (W.region ?_)))));iterate 2 refine pE rfl ?_
  refine WO.nil (qs (W.seq (W.region ?_)));iterate 3 refine pE rfl ?_
  refine pu (indexAddr aa rfl rfl rfl rfl rfl rfl (Int.natCast_nonneg _) (aM (by assumption)) rfl) rfl ?_;refine pE rfl (pu (ao rfl rfl (by rw[List.map_append,I.1 _ 2];rfl) (hp x) rfl) rfl ?_);refine WO.nil (qs (ab rfl (fun J=>?_) (fun J=>?_)));·
   refine W.seq (W.region ?_);iterate 2 refine pE rfl ?_
   refine WO.nil (qs (W.ret (aC (an (cn (aC (an (QF.aw trivial rfl ?_))))))));simp only[norm,aI];rw[M.found N J];rfl
  refine W.skip (be (qs (W.region ?_)));iterate 2 refine pE rfl ?_
  refine WO.nil (W.bt [] ⟨k+1,?_⟩ ?_ rfl ?_ ⟨rfl,(by first | rfl | exact I.2),rfl,(by first | rfl | exact I.2),rfl,(by first | rfl | exact I.2),trivial⟩ ?_ trivial rfl);·exact⟨O,M.step N J⟩
  ·dsimp only;omega
  ·repeat' first | exact trivial | refine⟨aL (by assumption) (by assumption),?_⟩
  repeat' exact trivial
 refine W.exit (aW (aT (aS (qs (W.seq (W.region (pE rfl (WO.nil (qs (W.ret (QF.aw trivial rfl ?_)))))))))));simp only[norm,aI];rw[M.end_ he];rfl
theorem qS (fid:Nat) (caps:List A) (I:AP caps) (p:ByteArray→Bool) (hp:∀ x:ByteArray,ay Tryz.prog fid (.d (.v (.string x))::caps) (.d (.v (.bool (p x)))) 0) (l:List ByteArray) :
 ay Tryz.prog 97 [.d (.sl (l.map sc)),.clo fid caps] (.d (.v (.bool (l.any p)))) 0:=by
 refine ay.aZ (n:=9) (ts:=[4]) Tryz.func97 (by kernel_rfl) rfl Tryz.ntmps97 Tryz.results97 rfl rfl fun C hC J=>?_;refine W.seq (W.region (pE rfl (WO.nil (qs (W.seq (W.region ?_))))));iterate 2 refine pE rfl ?_
 refine pu (ao (args:=[.d (.sl (l.map sc)),.clo fid caps]) rfl rfl (by simp[conv,I.1 _ 1]) (yq fid caps I p hp l) rfl) rfl ?_;iterate 2 refine pE rfl ?_
 refine WO.nil (qs (W.ret (QF.aw trivial rfl ?_)));simp only[norm,aI];rw[←jv]
abbrev obj (j:JV) (bad:Bool):List A:=[.d (ci j.op),.d (ci j.n),.d (cs j.s),.d (.sl (j.keys.map sc)),.d (.sl j.kc),.d (.v (.bool bad))]
theorem A4 (j:JV) (bad:Bool) (k:ByteArray):ay Tryz.prog 98 [.d (.v (.string k)),.row [.row (obj j bad)]] (.d (.v (.bool (!j.keys.any fun x=>decide (k=x))))) 0:=by
 refine ay.aZ (n:=12) (ts:=[3]) Tryz.func98 (by kernel_rfl) rfl Tryz.ntmps98 Tryz.results98 rfl rfl fun C hC I=>?_;refine W.seq (W.region (pE rfl (WO.nil (qs (W.seq (W.region (pE rfl ?_)))))));iterate 3 refine pE rfl ?_
 refine pE rfl (pE rfl (pu (ao rfl rfl rfl (wI ..) rfl) rfl ?_));iterate 2 refine pE rfl ?_
 refine WO.nil (qs (W.ret (QF.aw trivial rfl ?_)));rfl
end Go.Proofs.YtpiaiiopakafhaaGreatDoor
namespace Go.Proofs.YtpiaiiopakafhaaGreatDoor
open Go.Ab Go.Tb
set_option maxRecDepth 10000
set_option maxHeartbeats 1000000
attribute [local irreducible] W WO Pu QS QB QL QF QV bA CH QE
theorem iE (j:JV) (bad:Bool) (key:ByteArray) (op:Int):bz Tryz.prog 55 [.ptr 0 0,.d (.v (.string key)),.d (.v (.int .i64 op))] [obj j bad] 0 (.ag (aY j key op).c) [obj j (bad || cw j key op)] 0:=by
 refine bz.cX aa (n:=31) (rs:=[.cell 6 46]) Tryz.func55 (by kernel_rfl) rfl Tryz.ntmps55 Tryz.results55 rfl rfl fun C hC M=>?_;refine W.seq (W.region (aQ aa rfl rfl rfl (WO.nil (qs (W.seq (W.region ?_))))));iterate 3 refine pE rfl ?_
 refine pE rfl (pE rfl (pu (ao rfl rfl rfl (Df j key) rfl) rfl ?_));iterate 3 refine pE rfl ?_
 refine aQ aa rfl rfl rfl (ar aa rfl rfl rfl rfl rfl rfl rfl rfl (pE rfl (WO.nil (qs ?_))));iterate 2 refine W.seq ?_
 apply aG;(case hb=>rfl);·repeat' first | refine bg rfl rfl rfl | refine aH rfl rfl ?_ | refine aE rfl rfl rfl rfl ?_ | refine pE rfl ?_ | refine WO.nil ?_ | (apply aP;(case hj=>rfl);(case hl=>rfl))
 refine qs (ab rfl (fun I=>?_) (fun I=>?_));·
  obtain⟨hb,J⟩:=Be I;rw[hb,J,Bool.or_true];refine W.seq (W.region ?_);iterate 3 refine pE rfl ?_
  refine ar aa rfl rfl rfl rfl rfl rfl rfl rfl (WO.nil (qs (W.seq (W.region (pu (build aa rfl rfl rfl rfl) rfl ?_)))));try refine gf 29 rfl rfl rfl ?_
  refine ar aa rfl rfl rfl rfl rfl rfl rfl rfl (WO.nil (qs (W.ret (an (b7.end aa [] trivial rfl rfl rfl rfl ?_ ?_)))));·exact⟨rfl,trivial⟩
  rfl
 obtain⟨hb,J⟩:=DN I;rw[hb,J,Bool.or_false];refine W.skip (qs (W.seq (W.region (pE rfl (ar aa rfl rfl rfl rfl rfl rfl rfl rfl (WO.nil (qs (W.ret (b7.end aa [] trivial rfl rfl rfl rfl ?_ ?_)))))))));·exact⟨rfl,trivial⟩
 rfl
theorem qQ (j:JV) (bad:Bool):bz Tryz.prog 51 [.ptr 0 0] [obj j bad] 0 (.tup [.d (ci (aY j bP 3).n),.d (cs (aY j dz 4).s)]) [obj j (bD j bad)] 0:=by
 refine bz.cX aa (n:=23) (rs:=[.tmp 2,.tmp 3]) Tryz.func51 (by kernel_rfl) rfl Tryz.ntmps51 Tryz.results51 rfl rfl fun C hC I=>?_;refine W.seq (W.region ?_);iterate 2 refine pE rfl ?_
 refine WO.nil (qs (W.seq (W.region (pE rfl (aK [0] [] rfl rfl rfl rfl rfl ((iE j bad bP 3)) rfl rfl (by rfl) (by rfl) rfl rfl rfl rfl ?_)))));iterate 2 refine pE rfl ?_
 refine WO.nil (qs (W.seq (W.region ?_)));iterate 4 refine pE rfl ?_
 refine pE rfl (pE rfl (ku rfl rfl (fun g13=>?_) (fun g13=>?_)));·
  have hb:bD j bad=(true || cw j dz 4):=by unfold bD;rw[show(bad || cw j bP 3)=true from g13];rfl
  rw[hb];iterate 2 refine aE rfl rfl rfl rfl ?_
  iterate 3 refine pE rfl ?_
  refine ar aa rfl rfl rfl rfl rfl rfl rfl rfl (WO.nil (qs (W.seq (W.region ?_))));iterate 2 refine pE rfl ?_
  refine aK [0] [] rfl rfl rfl rfl rfl ((iE j _ dz 4)) rfl rfl (by rfl) (by rfl) rfl rfl rfl rfl ?_;iterate 3 refine pE rfl ?_
  refine WO.nil (qs (W.ret (b7.end aa [] trivial rfl rfl rfl rfl ?_ ?_)));·exact⟨rfl,trivial⟩
  rfl
 have hb:bD j bad=(decide ((aY j bP 3).n < 0) || cw j dz 4):=by unfold bD;rw[show(bad || cw j bP 3)=false from g13];rfl
 rw[hb];refine aH rfl rfl (pE rfl (aH rfl rfl ?_));iterate 4 refine pE rfl ?_
 refine ar aa rfl rfl rfl rfl rfl rfl rfl rfl (WO.nil (qs (W.seq (W.region ?_))));iterate 2 refine pE rfl ?_
 refine aK [0] [] rfl rfl rfl rfl rfl ((iE j _ dz 4)) rfl rfl (by rfl) (by rfl) rfl rfl rfl rfl ?_;iterate 3 refine pE rfl ?_
 refine WO.nil (qs (W.ret (b7.end aa [] trivial rfl rfl rfl rfl ?_ ?_)));·exact⟨rfl,trivial⟩
 rfl
theorem rv (j:JV) (bad:Bool) (l:List ByteArray):ay Tryz.prog 57 [.row (obj j bad),.d (.sl (l.map sc))] (.d (.v (.bool (gN j l)))) 0:=by
 refine ay.aZ (n:=20) (ts:=[4]) Tryz.func57 (by kernel_rfl) rfl Tryz.ntmps57 Tryz.results57 rfl rfl fun C hC I=>?_;refine W.seq (W.region (bK rfl rfl rfl (pE rfl (WO.nil (qs (W.seq ?_))))));apply aG;(case hb=>rfl);·repeat' first | refine bg rfl rfl rfl | refine aH rfl rfl ?_ | refine aE rfl rfl rfl rfl ?_ | refine pE rfl ?_ | refine pu (ao rfl rfl rfl (qS _ [.row [.row (obj j bad)]] ⟨fun _ _=>rfl,rfl⟩ _ (A4 j bad) l) rfl) rfl ?_ | refine WO.nil ?_ | (apply aP;(case hj=>rfl);(case hl=>rfl))
 refine qs (W.ret (QF.aw trivial rfl ?_));show A.d (.v (.bool _))=A.d (.v (.bool _));unfold gN;rw[List.length_map,List.length_map];congr 3;simp only[cond_eq_ite];by_cases h:j.keys.length=l.length <;> simp[h] <;> omega
end Go.Proofs.YtpiaiiopakafhaaGreatDoor
namespace Go.Proofs.YtpiaiiopakafhaaGreatDoor
open Go.Ab Go.Tb
set_option maxRecDepth 10000
set_option maxHeartbeats 1000000
attribute [local irreducible] W WO Pu QS QB QL QF QV bA CH QE
theorem vl {l:List JV} {k:Nat} {x:JV} (h:l[k]? = some x):cz (l.take (k+1))=(cz (l.take k) || !decide (x.op=4)):=by unfold cz;rw[List.take_add_one,h];simp
theorem zI (j:JV) (bad:Bool) (hs:(aY j aR 5).kids.length≤1000000000):bz Tryz.prog 56 [.ptr 0 0] [obj j bad] 0 (.d (.sl ((oR j).map sc))) [obj j ((bad || cw j aR 5) || cz (aY j aR 5).kids)] 0:=by
 refine bz.cX aa (n:=33) (rs:=[.tmp 2]) Tryz.func56 (by kernel_rfl) rfl Tryz.ntmps56 Tryz.results56 rfl rfl fun C hC hG=>?_;refine W.seq (W.region (pE rfl (WO.nil (qs (W.seq (W.region (pE rfl (WO.nil (qs ?_)))))))));iterate 2 refine W.seq ?_
 refine W.region (pE rfl (aK [0] [] rfl rfl rfl rfl rfl ((iE j bad aR 5)) rfl rfl (by rfl) (by rfl) rfl rfl rfl rfl ?_));iterate 3 refine pE rfl ?_
 refine WO.nil (qs (W.block (jI (d:=3) rfl rfl ?_)));refine W.len (t:=8) rfl rfl (fun hlen=>?_);try simp only[List.length_map,Ex.aF] at hlen
 refine W.bh (ι:={x:Nat×Bool×List ByteArray // match x with | (k,b,out)=>k≤(aY j aR 5).kids.length∧out=((aY j aR 5).kids.take k).map JV.s∧b=((bad || cw j aR 5) || cz ((aY j aR 5).kids.take k))})
  (fun x=>match x.1 with | (k,b,out)=>[(0,.ptr 0 0),(3,.own 1 (out.map sc)),(10,.d (.v (.int .i64 ((k:Nat):Int))))]) [(8,_),(9,_)]
  (fun x=>match x.1 with | (k,b,out)=>[(0,obj j b)]) [] [1] 2 (fun x=>match x.1 with | (k,b,out)=>(aY j aR 5).kids.length - k)
  [0,2] ⟨(0,bad || cw j aR 5,[]),?_⟩ rfl ?_ ⟨rfl,rfl,rfl,rfl,trivial⟩ ?_ trivial rfl ?_
 ·exact⟨Nat.zero_le _,rfl,by simp[cz]⟩
 ·repeat' first | exact trivial | refine⟨rfl,?_⟩
 ·repeat' first | exact trivial | refine⟨rfl,?_⟩
 rintro⟨⟨k,b,out⟩,U,I,M⟩;show W _ _ _ _ _ ⟨[(0,.ptr 0 0),(3,.own 1 (out.map sc)),(10,.d (.v (.int .i64 ((k:Nat):Int)))),(8,_),(9,_)],[(0,obj j b)],[1],2⟩;have X:(aY j aR 5).kids.length≤maxLen:=by rw[←JV.aF];exact hlen
 have Z:out.length≤(aY j aR 5).kids.length:=by rw[I,List.length_map,List.length_take];exact Nat.min_le_right _ _
 refine W.seq (W.region (pE rfl (WO.nil (qs (W.seq (bu (l:=(aY j aR 5).kids) (k:=k) rfl (by simp[JV.aF]) U (fun x J hd N=>?_) (fun he hd=>?_)))))));·
  refine W.skip (qs (W.seq (W.block (W.seq (W.region (pu (indexAddr (l:=x.c) aa rfl rfl rfl rfl rfl rfl (Int.natCast_nonneg _) (JV.zh J) rfl) rfl ?_))))));refine pE rfl (aQ aa rfl rfl rfl (ar aa rfl rfl rfl rfl rfl rfl rfl rfl (WO.nil (qs (W.seq (W.region ?_))))));iterate 4 refine pE rfl ?_
  refine pE rfl (pE rfl (ku rfl rfl (fun g19=>?_) (fun g19=>?_)));·
   let O:Bool:=true;iterate 3 refine aE rfl rfl rfl rfl ?_
   iterate 3 refine pE rfl ?_
   refine ar aa rfl rfl rfl rfl rfl rfl rfl rfl (WO.nil (qs (W.region ?_)));iterate 2 refine pE rfl ?_
   refine pE rfl (pu (ba aa rfl rfl rfl rfl rfl rfl rfl rfl rfl) rfl ?_);refine eE (a:=x.s) aa rfl rfl rfl rfl rfl rfl rfl rfl rfl rfl (fun _=>rfl) (by show(out.length+1)*16≤_;omega) ?_;refine pE rfl (WO.nil (be (qs (W.region ?_))));iterate 2 refine pE rfl ?_
   refine WO.nil (W.bt [0,3] ⟨(k+1,O,out++[x.s]),?_⟩ ?_ rfl ?_ ⟨rfl,rfl,rfl,rfl,trivial⟩ ?_ trivial rfl);·exact⟨N,by rw[List.take_add_one,J,List.map_append,I];rfl,by rw[vl J,←Bool.or_assoc,←M,g19];rfl⟩
   ·dsimp only;omega
   ·repeat' first | exact trivial | refine⟨rfl,?_⟩ | refine⟨aL (by assumption) (by assumption),?_⟩
   repeat' first | exact trivial | refine⟨rfl,?_⟩
  let O:Bool:=!decide (x.op=4);refine aH rfl rfl (pE rfl (aH rfl rfl (pE rfl (aH rfl rfl ?_))));iterate 4 refine pE rfl ?_
  refine ar aa rfl rfl rfl rfl rfl rfl rfl rfl (WO.nil (qs (W.region ?_)));iterate 2 refine pE rfl ?_
  refine pE rfl (pu (ba aa rfl rfl rfl rfl rfl rfl rfl rfl rfl) rfl ?_);refine eE (a:=x.s) aa rfl rfl rfl rfl rfl rfl rfl rfl rfl rfl (fun _=>rfl) (by show(out.length+1)*16≤_;omega) ?_;refine pE rfl (WO.nil (be (qs (W.region ?_))));iterate 2 refine pE rfl ?_
  refine WO.nil (W.bt [0,3] ⟨(k+1,O,out++[x.s]),?_⟩ ?_ rfl ?_ ⟨rfl,rfl,rfl,rfl,trivial⟩ ?_ trivial rfl);·exact⟨N,by rw[List.take_add_one,J,List.map_append,I];rfl,by rw[vl J,←Bool.or_assoc,←M,g19];rfl⟩
  ·dsimp only;omega
  ·repeat' first | exact trivial | refine⟨rfl,?_⟩ | refine⟨aL (by assumption) (by assumption),?_⟩
  repeat' first | exact trivial | refine⟨rfl,?_⟩
 rw[he,List.take_length] at M;rw[←M];refine W.exit (aW (aT (aS (qs (W.seq (W.region ?_))))));iterate 2 refine pE rfl ?_
 refine WO.nil (qs (W.ret (b7.end aa [] trivial rfl rfl rfl rfl ?_ ?_)));·exact⟨rfl,trivial⟩
 rw[I,he,List.take_length];rfl
end Go.Proofs.YtpiaiiopakafhaaGreatDoor
namespace Go.Proofs.YtpiaiiopakafhaaGreatDoor
open Go.Ab Go.Tb
set_option maxRecDepth 10000
set_option maxHeartbeats 1000000
attribute [local irreducible] W WO Pu QS QB QL QF QV bA CH QE
abbrev lC:List A:=[.d (ci 0),.d (ci 0),.d (cs (B #[])),.d (ci 0),.d (ci 0),.d (.v (.slice none 0 0))]
abbrev GF (j:JV):Nat→Bool
 | 0=>bD j (bO j)
 | _+1=>ee j (bD j (bO j))
abbrev vZ (j:JV) (f:Fm) (k:Nat):List (Nat×List A):=[(2,obj j (GF j k)),(5,f.c.map A.d),(4,[.d (cs (aY j dz 4).s)]),(1,lC),(0,j.c.map A.d)]
abbrev kr (j:JV) (f:Fm):iB:=⟨vZ j f,fun k=>(6,lC)::vZ j f k,fun _=>[],fun k=>7+k,fun k=>[0,1,2,3,4,5,7+k]++(List.range k).map (7+·),6,lC,[3],6,fun _=>False⟩
theorem wH {ph:ByteArray} (h:idx (eH.findIdx? fun f=>decide (f.ph=ph)) < 0):ib ph=none:=by
 unfold ib
 cases hi:eH.findIdx? fun f=>decide (f.ph=ph) with
 | none=>rfl
 | some i=>rw[hi] at h;simp[idx] at h;omega
theorem wm {ph:ByteArray} (h:¬ idx (eH.findIdx? fun f=>decide (f.ph=ph)) < 0):∃ (i:Nat) (f:Fm),idx (eH.findIdx? fun f=>decide (f.ph=ph))=(i:Int)∧eH[i]? = some f∧ib ph=some f:=by
 cases hi:eH.findIdx? fun f=>decide (f.ph=ph) with
 | none=>rw[hi] at h;simp[idx] at h
 | some i=>obtain⟨hl,_⟩:=List.findIdx?_eq_some_iff_getElem.1 hi;refine⟨i,eH[i],rfl,by simp[hl],?_⟩;unfold ib;rw[hi];simp[hl]
set_option maxHeartbeats 1000000 in
theorem vO (j:JV) (hs:(aY j aR 5).kids.length≤1000000000):ay Tryz.prog 19 [.ag j.c] (.tup [.d (ci (bo j).1),.ag (bo j).2.1.c,.d (ci (bo j).2.2)]) 0:=by
 refine ay.cX aa (n:=114) (rs:=[.tmp 2,.cell 3 50,.tmp 4]) Tryz.func19 (by kernel_rfl) rfl Tryz.ntmps19 Tryz.results19 rfl fun C hC hG=>?_;refine W.seq (W.region (bK rfl rfl rfl (pE rfl (aQ aa rfl rfl rfl (pE rfl (WO.nil (qs ?_)))))));iterate 2 refine W.seq ?_
 refine W.region (pE rfl (pu (ao rfl rfl rfl (tQ j) rfl) rfl ?_));refine pE rfl (WO.nil (qs (W.seq (W.region ?_))));iterate 2 refine pE rfl ?_
 refine WO.nil (qs (ab rfl (fun Z=>?_) (fun Z=>?_)));·
  have J:bo j=(0,ig,aX j 1):=by unfold bo;rw[if_pos (by simpa using Z)]
  refine W.seq (W.region (pu (fV (build aa rfl rfl rfl rfl) rfl) rfl ?_));iterate 2 refine pE rfl ?_
  refine ar aa rfl rfl rfl rfl rfl rfl rfl rfl (pE rfl (WO.nil (qs (W.ret (an (QV.aw aa trivial rfl ?_))))));rw[J];rfl
 have aj:aX j 1=0:=by simpa using Z
 refine W.skip (qs (W.seq (W.region (pE rfl (pE rfl (pE rfl (pE rfl (pu (build aa rfl rfl rfl rfl) rfl ?_))))))));refine bK rfl rfl rfl (pE rfl (WO.nil (qs (W.seq (W.region (pE rfl (aK [2] [] rfl rfl rfl rfl rfl ((qQ j (bO j))) rfl rfl (by rfl) (by rfl) rfl rfl rfl rfl ?_)))))));iterate 3 refine pE rfl ?_
 refine aQ aa rfl rfl rfl (pE rfl (ar aa rfl rfl rfl rfl rfl rfl rfl rfl (WO.nil (qs (W.seq (W.region (pu (ao rfl rfl rfl (lK ..) rfl) rfl ?_)))))));refine pE rfl (pu (ao rfl rfl rfl (qJ _ _ ⟨fun _ _=>rfl,rfl⟩ _ (Du (aY j dz 4).s) eH) rfl) rfl ?_);refine pE rfl (WO.nil (qs ?_));iterate 2 refine W.seq ?_
 apply aG;(case hb=>rfl);·
  iterate 3 refine pE rfl ?_
  refine pE rfl (pE rfl ?_);apply fJ;(case hj=>rfl);(case hl=>rfl);·
   intro a6;iterate 2 refine aE rfl rfl rfl rfl ?_
   refine pE rfl (WO.nil (bg rfl rfl rfl))
  intro a6;refine aH rfl rfl (pE rfl (aH rfl rfl ?_));iterate 2 refine pE rfl ?_
  refine WO.nil (bg rfl rfl rfl)
 refine qs (ab rfl (fun I=>?_) (fun I=>?_));·
  have J:bo j=(0,ig,10):=by
   unfold bo;rw[if_neg (by rw[aj];simp)]
   cases hb:bD j (bO j) with
   | true=>rfl
   | false=>rw[hb] at I;rw[wH (by simpa using I)];rfl
  refine W.seq (W.region (pu (fV (build aa rfl rfl rfl rfl) rfl) rfl ?_));refine pE rfl (ar aa rfl rfl rfl rfl rfl rfl rfl rfl (pE rfl (WO.nil (qs (W.ret (an (QV.aw aa trivial rfl ?_)))))));rw[J];rfl
 have a1:bD j (bO j)=false:=by
  cases hb:bD j (bO j) with
  | true=>rw[hb] at I;cases I
  | false=>rfl
 obtain⟨i,f,hi,hf,a7⟩:=wm (ph:=(aY j dz 4).s) (by rw[a1] at I;simpa using I);have hE:bo j=if (bif sj j f (bD j (bO j)) then true else !gN j (dJ f (fD j f)))=true then (0,ig,10) else if ct (kv j f)≠0 then (0,ig,ct (kv j f)) else ((aY j bP 3).n,kv j f,0):=by unfold bo;rw[if_neg (by rw[aj];simp),if_neg (by rw[a1];simp),a7]
 rw[hi];refine W.skip (qs (W.seq (W.region (pu (ao rfl rfl rfl (lK ..) rfl) rfl ?_))));refine pE rfl (pu (indexAddr (l:=f.c) aa rfl rfl rfl rfl rfl rfl (Int.natCast_nonneg _) (aM hf) rfl) rfl ?_);refine pE rfl (aQ aa rfl rfl rfl (ar aa rfl rfl rfl rfl rfl rfl rfl rfl (WO.nil (qs (W.seq (W.mn aa (kr j f) false 7 (by kernel_rfl) (by kernel_rfl) rfl rfl (fun _ _ h=>h.elim) ?hok (mg.le (f':=vZ j f 0) ⟨rfl,rfl,rfl,rfl,rfl,trivial⟩) rfl rfl ?hcd))))));case hok=>exact fun _=>⟨by repeat' (first | exact trivial | exact rfl | refine And.intro ?_ ?_),by repeat' (first | exact trivial | exact rfl | refine And.intro ?_ ?_)⟩
 refine' r8 ?p0 rfl rfl rfl (by kernel_rfl) rfl ?h0;case p0=>refine⟨?_,?_,?_,?_⟩ <;> intro M <;> first | (refine⟨ev aa rfl,?_⟩;intro _;rfl) | exact(ae M (by kernel_rfl)).elim
 case' h0=>skip
 refine' r8 ?p1 rfl rfl rfl (by kernel_rfl) rfl ?h1;case p1=>refine⟨?_,?_,?_,?_⟩ <;> intro M <;> first | (refine⟨ev aa rfl,?_⟩;intro _;rfl) | exact(ae M (by kernel_rfl)).elim
 case' h1=>skip
 refine' r8 ?p2 rfl rfl rfl (by kernel_rfl) rfl ?h2;case p2=>refine⟨?_,?_,?_,?_⟩ <;> intro M <;> first | (refine⟨ev aa rfl,?_⟩;intro _;rfl) | exact(ae M (by kernel_rfl)).elim
 case' h2=>skip
 refine' uO ?x3 rfl rfl rfl (by kernel_rfl) ?r3 rfl ?h3;case x3=>
  intro b hb g;cases b;·
   refine aK [2] [] rfl rfl rfl rfl rfl (iE j (bD j (bO j)) cT 3) rfl rfl (by rfl) (by rfl) rfl rfl rfl rfl ?_;refine Ae (vZ j f 1) ⟨rfl,rfl,rfl,rfl,rfl,trivial⟩ ?_;refine WO.nil ?_;exact⟨rfl,rfl⟩
  refine aK [2] [] rfl rfl rfl rfl rfl (iE j (bD j (bO j)) cT 3) rfl rfl (by rfl) (by rfl) rfl rfl rfl rfl ?_;refine Ae ((6,lC)::vZ j f 1) ⟨rfl,rfl,rfl,rfl,rfl,rfl,trivial⟩ ?_;refine WO.nil ?_;exact⟨rfl,rfl⟩
 case r3=>intro _;rfl
 case' h3=>skip
 refine' r8 ?p4 rfl rfl rfl (by kernel_rfl) rfl ?h4;case p4=>refine⟨?_,?_,?_,?_⟩ <;> intro M <;> first | (refine⟨ev aa rfl,?_⟩;intro _;rfl) | exact(ae M (by kernel_rfl)).elim
 case' h4=>skip
 refine' r8 ?p5 rfl rfl rfl (by kernel_rfl) rfl ?h5;case p5=>refine⟨?_,?_,?_,?_⟩ <;> intro M <;> first | (refine⟨Pu.oN (build aa rfl rfl rfl rfl) rfl,?_⟩;intro _;rfl) | exact(ae M (by kernel_rfl)).elim
 case' h5=>skip
 refine Gz rfl rfl rfl rfl rfl (by kernel_rfl) rfl ?_;refine CD.nil ?_ rfl;refine ar aa rfl rfl rfl rfl rfl rfl rfl rfl (WO.nil (qs ?_));iterate 2 refine W.seq ?_
 refine W.region (pE rfl (pE rfl (WO.nil (qs (W.mh [(3,.ptr 0 0),(6,.ptr 1 0),(10,.ptr 2 0),(11,.ptr 3 0)] [7] [(0,lC),(1,obj j (dO j f (ee j (bD j (bO j))))),(2,f.c.map A.d),(3,[.d (ci (w7 j)),.d (ci f.kind),.d (cs (lJ j f)),.d (ci 0),.d (ci 0),.d (.sl [])])] [] [] 4 ?_ ?_)))));·
  refine ab rfl (fun N=>?_) (fun N=>?_);·
   rw[show dO j f (ee j (bD j (bO j)))=(ee j (bD j (bO j)) || cw j bk 4) from if_pos N,show lJ j f=(aY j bk 4).s from if_pos N];refine W.region (pE rfl (aK [2] [] rfl rfl rfl rfl rfl ((iE j (ee j (bD j (bO j))) bk 4)) rfl rfl (by rfl) (by rfl) rfl rfl rfl rfl ?_));iterate 2 refine pE rfl ?_
   refine ar aa rfl rfl rfl rfl rfl rfl rfl rfl (WO.nil (cO [1,2,5,6] rfl ?_ ⟨rfl,rfl,trivial⟩ ?_ trivial rfl));·repeat' first | exact trivial | refine⟨rfl,?_⟩
   repeat' first | exact trivial | refine⟨rfl,?_⟩
  rw[show dO j f (ee j (bD j (bO j)))=ee j (bD j (bO j)) from if_neg (by rw[N];simp),show lJ j f=bq from if_neg (by rw[N];simp)];refine W.skip (cO [1,2,5,6] rfl ?_ ⟨rfl,rfl,trivial⟩ ?_ trivial rfl);·repeat' first | exact trivial | refine⟨rfl,?_⟩
  repeat' first | exact trivial | refine⟨rfl,?_⟩
 refine qs ?_;iterate 2 refine W.seq ?_
 refine W.region (pE rfl (pE rfl (pE rfl (WO.nil (qs (W.mh [(3,.ptr 0 0),(6,.ptr 1 0),(10,.ptr 2 0),(11,.ptr 3 0)] [7] [(0,lC),(1,obj j (gG j f (dO j f (ee j (bD j (bO j)))))),(2,f.c.map A.d),(3,[.d (ci (w7 j)),.d (ci f.kind),.d (cs (lJ j f)),.d (ci (nO j f)),.d (ci 0),.d (.sl [])])] [] [] 4 ?_ ?_))))));·
  refine ab rfl (fun ad=>?_) (fun ad=>?_);·
   have hn:¬ f.n=bq:=by simpa [bq] using ad
   rw[show gG j f (dO j f (ee j (bD j (bO j))))=(dO j f (ee j (bD j (bO j))) || cw j f.n 3) from if_neg hn,show nO j f=(aY j f.n 3).n from if_neg hn];refine W.region ?_;iterate 2 refine pE rfl ?_
   refine pE rfl (aK [1] [] rfl rfl rfl rfl rfl ((iE j (dO j f (ee j (bD j (bO j)))) f.n 3)) rfl rfl (by rfl) (by rfl) rfl rfl rfl rfl ?_);iterate 2 refine pE rfl ?_
   refine ar aa rfl rfl rfl rfl rfl rfl rfl rfl (WO.nil (cO [0,1,2,3] rfl ?_ ⟨rfl,rfl,trivial⟩ ?_ trivial rfl));·repeat' first | exact trivial | refine⟨rfl,?_⟩
   repeat' first | exact trivial | refine⟨rfl,?_⟩
  have hn:f.n=bq:=by simpa [bq] using ad
  rw[show gG j f (dO j f (ee j (bD j (bO j))))=dO j f (ee j (bD j (bO j))) from if_pos hn,show nO j f=0 from if_pos hn];refine W.skip (cO [0,1,2,3] rfl ?_ ⟨rfl,rfl,trivial⟩ ?_ trivial rfl);·repeat' first | exact trivial | refine⟨rfl,?_⟩
  repeat' first | exact trivial | refine⟨rfl,?_⟩
 refine qs (W.seq ?_);apply aG;(case hb=>rfl);·
  refine pE rfl (pE rfl ?_);iterate 2 refine pE rfl ?_
  apply fJ;(case hj=>rfl);(case hl=>rfl);·
   intro a8;iterate 3 refine aE rfl rfl rfl rfl ?_
   iterate 2 refine pE rfl ?_
   refine WO.nil (bg rfl rfl rfl)
  intro a8;refine aH rfl rfl (pE rfl (aH rfl rfl (pE rfl (aH rfl rfl ?_))));iterate 3 refine pE rfl ?_
  refine WO.nil (bg rfl rfl rfl)
 refine qs ?_;iterate 2 refine W.seq ?_
 apply aG;(case hb=>rfl);·
  refine pE rfl (pE rfl ?_);iterate 2 refine pE rfl ?_
  apply fJ;(case hj=>rfl);(case hl=>rfl);·
   intro b0;refine aH rfl rfl ?_;iterate 2 refine pE rfl ?_
   refine WO.nil (bg rfl rfl rfl)
  intro b0;refine aE rfl rfl rfl rfl (pE rfl (WO.nil (bg rfl rfl rfl)))
 refine qs (W.mh [(3,.ptr 0 0),(6,.ptr 1 0),(10,.ptr 2 0),(11,.ptr 3 0)] [7,12] [(0,lC),(1,obj j (jH j f (fD j f) (gG j f (dO j f (ee j (bD j (bO j))))))),(2,f.c.map A.d),(3,[.d (ci (w7 j)),.d (ci f.kind),.d (cs (lJ j f)),.d (ci (nO j f)),.d (ci (mO j f (fD j f))),.d (.sl [])])] [] [] 4 ?_ ?_);·
  refine ab rfl (fun ai=>?_) (fun ai=>?_);·
   have hm:rV f (fD j f)=true:=ai;rw[show jH j f (fD j f) (gG j f (dO j f (ee j (bD j (bO j)))))=(gG j f (dO j f (ee j (bD j (bO j)))) || cw j f.m 3) from if_pos hm,show mO j f (fD j f)=(aY j f.m 3).n from if_pos hm];refine W.region ?_;iterate 2 refine pE rfl ?_
   refine pE rfl (aK [1] [] rfl rfl rfl rfl rfl ((iE j (gG j f (dO j f (ee j (bD j (bO j))))) f.m 3)) rfl rfl (by rfl) (by rfl) rfl rfl rfl rfl ?_);iterate 2 refine pE rfl ?_
   refine ar aa rfl rfl rfl rfl rfl rfl rfl rfl (WO.nil (cO [0,1,2,3] rfl ?_ ⟨rfl,rfl,rfl,rfl,trivial⟩ ?_ trivial rfl));·repeat' first | exact trivial | refine⟨rfl,?_⟩
   repeat' first | exact trivial | refine⟨rfl,?_⟩
  have hm:¬ rV f (fD j f)=true:=by rw[show rV f (fD j f)=false from ai];simp
  rw[show jH j f (fD j f) (gG j f (dO j f (ee j (bD j (bO j)))))=gG j f (dO j f (ee j (bD j (bO j)))) from if_neg hm,show mO j f (fD j f)=0 from if_neg hm];refine W.skip (cO [0,1,2,3] rfl ?_ ⟨rfl,rfl,rfl,rfl,trivial⟩ ?_ trivial rfl);·repeat' first | exact trivial | refine⟨rfl,?_⟩
  repeat' first | exact trivial | refine⟨rfl,?_⟩
 refine qs ?_;iterate 2 refine W.seq ?_
 refine W.region (pE rfl (pE rfl (WO.nil (qs (W.mh [(3,.ptr 0 0),(6,.ptr 1 0),(10,.ptr 2 0),(11,.ptr 3 0)] [7,12] [(0,lC),(1,obj j (qh j f (jH j f (fD j f) (gG j f (dO j f (ee j (bD j (bO j)))))))),(2,f.c.map A.d),(3,[.d (ci (w7 j)),.d (ci f.kind),.d (cs (lJ j f)),.d (ci (nO j f)),.d (ci (mO j f (fD j f))),.d (.sl (sV (zV j f)))])] [] [] 4 ?_ ?_)))));·
  refine ab rfl (fun O=>?_) (fun O=>?_);·
   rw[show qh j f (jH j f (fD j f) (gG j f (dO j f (ee j (bD j (bO j))))))=((jH j f (fD j f) (gG j f (dO j f (ee j (bD j (bO j))))) || cw j aR 5) || cz (aY j aR 5).kids) from if_pos O,show zV j f=oR j from if_pos O];refine W.region (pE rfl (aK [1] [] rfl rfl rfl rfl rfl ((zI j (jH j f (fD j f) (gG j f (dO j f (ee j (bD j (bO j)))))) hs)) rfl rfl (by rfl) (by rfl) rfl rfl rfl rfl ?_));refine pE rfl (ar aa rfl rfl rfl rfl rfl rfl rfl rfl (WO.nil (cO [0,1,2,3] rfl ?_ ⟨rfl,rfl,rfl,rfl,trivial⟩ ?_ trivial rfl)));·repeat' first | exact trivial | refine⟨rfl,?_⟩
   repeat' first | exact trivial | refine⟨rfl,?_⟩
  rw[show qh j f (jH j f (fD j f) (gG j f (dO j f (ee j (bD j (bO j))))))=jH j f (fD j f) (gG j f (dO j f (ee j (bD j (bO j))))) from if_neg (by rw[O];simp),show zV j f=[] from if_neg (by rw[O];simp)];refine W.skip (cO [0,1,2,3] rfl ?_ ⟨rfl,rfl,rfl,rfl,trivial⟩ ?_ trivial rfl);·repeat' first | exact trivial | refine⟨rfl,?_⟩
  repeat' first | exact trivial | refine⟨rfl,?_⟩
 refine qs ?_;iterate 2 refine W.seq ?_
 have hB:sj j f (bD j (bO j))=qh j f (jH j f (fD j f) (gG j f (dO j f (ee j (bD j (bO j)))))):=rfl;generalize qh j f (jH j f (fD j f) (gG j f (dO j f (ee j (bD j (bO j))))))=B at hB ⊢;apply aG;(case hb=>rfl);·
  iterate 3 refine pE rfl ?_
  refine pE rfl (pE rfl ?_);apply fJ;(case hj=>rfl);(case hl=>rfl);·
   intro b2;iterate 6 refine aE rfl rfl rfl rfl ?_
   refine pE rfl (WO.nil (bg rfl rfl rfl))
  intro b2;refine aH rfl rfl (pE rfl (aH rfl rfl (pE rfl (aH rfl rfl (pE rfl (aH rfl rfl (pu (ao rfl rfl rfl (sA f (fD j f)) rfl) rfl ?_)))))));refine aH rfl rfl (pu (ao rfl rfl rfl (rv j B (dJ f (fD j f))) rfl) rfl ?_);refine aH rfl rfl ?_;iterate 2 refine pE rfl ?_
  refine WO.nil (bg rfl rfl rfl)
 refine qs (ab rfl (fun U=>?_) (fun U=>?_));·
  have J:bo j=(0,ig,10):=by rw[hE,hB,if_pos U]
  refine W.seq (W.region (pu (fV (build aa rfl rfl rfl rfl) rfl) rfl ?_));refine pE rfl (ar aa rfl rfl rfl rfl rfl rfl rfl rfl (pE rfl (WO.nil (qs (W.ret (an (QV.aw aa trivial rfl ?_)))))));rw[J];rfl
 rw[hB,if_neg (by rw[show(bif B then true else !gN j (dJ f (fD j f)))=false from U];simp)] at hE;refine W.skip (qs ?_);iterate 2 refine W.seq ?_
 refine W.region (pE rfl (pu (ao rfl rfl rfl (tM (kv j f)) rfl) rfl ?_));refine pE rfl (WO.nil (qs (W.seq (W.region ?_))));iterate 2 refine pE rfl ?_
 refine WO.nil (qs (ab rfl (fun X=>?_) (fun X=>?_)));·
  have J:bo j=(0,ig,ct (kv j f)):=by rw[hE,if_pos (by simpa using X)]
  refine W.seq (W.region (pu (fV (build aa rfl rfl rfl rfl) rfl) rfl ?_));iterate 2 refine pE rfl ?_
  refine ar aa rfl rfl rfl rfl rfl rfl rfl rfl (pE rfl (WO.nil (qs (W.ret (an (QV.aw aa trivial rfl ?_))))));rw[J];rfl
 have J:bo j=((aY j bP 3).n,kv j f,0):=by rw[hE,if_neg (by simpa using X)]
 refine W.skip (qs (W.seq (W.mD aa 3 0 (by kernel_rfl) rfl rfl ?_)));refine et rfl (ev aa rfl) rfl ?_;refine et rfl (ev aa rfl) rfl ?_;refine et rfl (ev aa rfl) rfl ?_;refine CE.nil ?_;refine ar aa rfl rfl rfl rfl rfl rfl rfl rfl (pE rfl (WO.nil (qs (W.ret (QV.aw aa trivial rfl ?_)))));rw[J];rfl
end Go.Proofs.YtpiaiiopakafhaaGreatDoor
namespace Go.Proofs.YtpiaiiopakafhaaGreatDoor
open Go.Ab Go.Tb
set_option maxRecDepth 10000
set_option maxHeartbeats 1000000
attribute [local irreducible] W WO Pu QS QB QL QF QV bA CH QE
theorem il (s:ByteArray):ay Tryz.prog 35 [.d (.v (.string s))] (.ag (tJ s).c) 0:=by refine ay.cX aa (n:=5) (rs:=[.cell 2 46]) Tryz.func35 (by kernel_rfl) rfl Tryz.ntmps35 Tryz.results35 rfl fun C hC I=>?_;refine W.seq (W.region (aQ aa rfl rfl rfl (WO.nil (qs (W.seq (W.region (pE rfl (pu (fV (build aa rfl rfl rfl rfl) rfl) rfl ?_))))))));refine ar aa rfl rfl rfl rfl rfl rfl rfl rfl (WO.nil (qs (W.ret (QV.aw aa trivial rfl ?_))));rfl
theorem iy (n:Int):ay Tryz.prog 36 [.d (ci n)] (.ag (nJ n).c) 0:=by refine ay.cX aa (n:=5) (rs:=[.cell 2 46]) Tryz.func36 (by kernel_rfl) rfl Tryz.ntmps36 Tryz.results36 rfl fun C hC I=>?_;refine W.seq (W.region (aQ aa rfl rfl rfl (WO.nil (qs (W.seq (W.region (pE rfl (pu (fV (build aa rfl rfl rfl rfl) rfl) rfl ?_))))))));refine ar aa rfl rfl rfl rfl rfl rfl rfl rfl (WO.nil (qs (W.ret (QV.aw aa trivial rfl ?_))));rfl
abbrev wZ:List A:=[.d (ci 0),.d (ci 0),.d (cs (B #[])),.d (.v (.slice none 0 0)),.d (.v (.slice none 0 0))]
theorem qT (id:Int) (e:Ev) (f:Fm) (hf:oY e.kind=some f) (hs:e.stack.length≤1000000):ay Tryz.prog 37 [.d (ci id),.ag e.c] (.ag (xz f id e).c) 0:=by
 obtain⟨i,hi,a7⟩:=CF hf;obtain⟨l,hl⟩:∃ l,l=dJ f (zR f e):=⟨_,rfl⟩;have b2:l.length≤7:=hl▸AH f _;refine ay.cX aa (n:=94) (rs:=[.cell 4 46]) Tryz.func37 (by kernel_rfl) rfl Tryz.ntmps37 Tryz.results37 rfl fun C hC hG=>?_;refine W.seq (W.region (bK rfl rfl rfl (aQ aa rfl rfl rfl (WO.nil (qs (W.seq (W.region (pu (ao rfl rfl rfl (lK ..) rfl) rfl ?_))))))));refine pE rfl (pu (ao rfl rfl rfl (qJ _ [.row (e.c.map A.d)] ⟨fun _ _=>rfl,rfl⟩ _ (Af e) eH) rfl) rfl ?_);refine pE rfl (WO.nil (qs (W.seq ?_)));rw[hi];refine W.region (pu (ao rfl rfl rfl (lK ..) rfl) rfl ?_);refine pE rfl (pu (indexAddr (l:=f.c) aa rfl rfl rfl rfl rfl rfl (Int.natCast_nonneg _) (aM a7) rfl) rfl ?_);refine pE rfl (aQ aa rfl rfl rfl (ar aa rfl rfl rfl rfl rfl rfl rfl rfl (WO.nil (qs (W.seq (W.mh [(3,.ptr 0 0),(4,.ptr 1 0),(6,.ptr 2 0),(7,.ptr 3 0)] [0] [(0,e.c.map A.d),(1,wZ),(2,f.c.map A.d),(3,[.d (ci 6),.d (ci 0),.d (cs bq),.d (.sl (l.map sc)),.d (.v (.slice none 0 0))])] [] [] 4 ?_ ?_))))));·
  refine W.region (pE rfl (pE rfl (pE rfl ?_)));iterate 2 refine pE rfl ?_
  refine ku rfl rfl (fun g24=>?_) (fun g24=>?_);·
   have O:l=dJ f true:=by rw[hl];unfold zR;rw[show(!decide (f.ph=pS))=true from g24];rfl
   rw[O];iterate 3 refine aE rfl rfl rfl rfl ?_
   refine pE rfl (pu (ao rfl rfl rfl (sA f _) rfl) rfl ?_);refine pu (build aa rfl rfl rfl rfl) rfl ?_;refine aQ aa rfl rfl rfl (ar aa rfl rfl rfl rfl rfl rfl rfl rfl (WO.nil (cO [0,1,2,3] rfl ?_ ⟨rfl,rfl,trivial⟩ ?_ trivial rfl)));·repeat' first | exact trivial | refine⟨rfl,?_⟩
   repeat' first | exact trivial | refine⟨rfl,?_⟩
  have O:l=dJ f (decide (e.n=2)):=by rw[hl];unfold zR;rw[show(!decide (f.ph=pS))=false from g24];rfl
  rw[O];refine aH rfl rfl (pE rfl (aH rfl rfl (pE rfl (aH rfl rfl ?_))));iterate 2 refine pE rfl ?_
  refine pu (ao rfl rfl rfl (sA f _) rfl) rfl ?_;refine pu (build aa rfl rfl rfl rfl) rfl ?_;refine aQ aa rfl rfl rfl (ar aa rfl rfl rfl rfl rfl rfl rfl rfl (WO.nil (cO [0,1,2,3] rfl ?_ ⟨rfl,rfl,trivial⟩ ?_ trivial rfl)));·repeat' first | exact trivial | refine⟨rfl,?_⟩
  repeat' first | exact trivial | refine⟨rfl,?_⟩
 refine qs ?_;iterate 2 refine W.seq ?_
 refine W.region (pE rfl (pE rfl ?_));iterate 2 refine pE rfl ?_
 refine WO.nil (qs (W.block (ez 3 4 rfl rfl rfl ?_)));refine W.len (t:=32) rfl rfl (fun hlen=>?_);try simp only[List.length_map,Ex.aF] at hlen
 refine W.bh (ι:={x:Nat×List JV // match x with | (k,acc)=>k≤l.length∧acc=(l.take k).map (gl f id e)})
  (fun x=>match x.1 with | (k,acc)=>[(3,.ptr 0 0),(4,.ptr 1 0),(6,.ptr 2 0),(7,.ptr 3 0),(34,.d (.v (.int .i64 ((k:Nat):Int))))]) [(0,_),(32,_),(33,_)]
  (fun x=>match x.1 with | (k,acc)=>[(0,e.c.map A.d),(1,wZ),(2,f.c.map A.d),(3,[.d (ci 6),.d (ci 0),.d (cs bq),.d (.sl (l.map sc)),.own 4 (acc.map JV.c)])]) [] [4] 5 (fun x=>match x.1 with | (k,acc)=>l.length - k)
  [0,1,2,3,4] ⟨(0,[]),?_⟩ rfl ?_ ⟨rfl,rfl,rfl,rfl,rfl,rfl,trivial⟩ ?_ trivial rfl ?_
 ·exact⟨Nat.zero_le _,rfl⟩
 ·repeat' first | exact trivial | refine⟨rfl,?_⟩
 ·repeat' first | exact trivial | refine⟨rfl,?_⟩
 rintro⟨⟨k,acc⟩,hk,M⟩;show W _ _ _ _ _ ⟨[(3,.ptr 0 0),(4,.ptr 1 0),(6,.ptr 2 0),(7,.ptr 3 0),(34,.d (.v (.int .i64 ((k:Nat):Int)))),(0,_),(32,_),(33,_)],[(0,e.c.map A.d),(1,wZ),(2,f.c.map A.d),(3,[.d (ci 6),.d (ci 0),.d (cs bq),.d (.sl (l.map sc)),.own 4 (acc.map JV.c)])],[4],5⟩;have b3:acc.length≤7:=by rw[M,List.length_map,List.length_take];omega
 refine W.seq (W.region (pE rfl (WO.nil (qs (W.seq (bu (l:=l) (k:=k) rfl (by simp[Ex.aF,au]) hk (fun w U hd X=>?_) (fun he hd=>?_)))))));·
  refine W.skip (qs (W.seq (W.block (W.seq (W.region (pu (indexAddr (l:=sc w) aa rfl rfl rfl rfl rfl rfl (Int.natCast_nonneg _) (aM U) rfl) rfl ?_))))));refine pE rfl (pE rfl (WO.nil (qs (W.seq (W.region (aQ aa rfl rfl rfl (WO.nil (qs ?_))))))));iterate 2 refine W.seq ?_
  refine W.region (pE rfl (WO.nil (qs (W.mh [(3,.ptr 0 0),(4,.ptr 1 0),(6,.ptr 2 0),(7,.ptr 3 0),(10,.ptr 4 0)] [0,32,33,34] [(0,e.c.map A.d),(1,wZ),(2,f.c.map A.d),(3,[.d (ci 6),.d (ci 0),.d (cs bq),.d (.sl (l.map sc)),.own 5 (acc.map JV.c)]),(4,(gl f id e w).c.map A.d)] [] [5] 6 ?_ ?_))));·
   refine W.block (W.seq (W.region ?_));iterate 2 refine pE rfl ?_
   refine WO.nil (qs (ab rfl (fun Z=>?_) (fun Z=>?_)));·
    have hw:w=dz:=by simpa [dz] using Z
    rw[show gl f id e w=tJ f.ph from if_pos hw];refine W.region (pE rfl (pE rfl (pu (ao rfl rfl rfl (il ..) rfl) rfl ?_)));refine ar aa rfl rfl rfl rfl rfl rfl rfl rfl (WO.nil (be (cO [0,1,2,3,5,4] rfl ?_ ⟨rfl,rfl,rfl,rfl,rfl,rfl,rfl,rfl,trivial⟩ ?_ trivial rfl)));·repeat' first | exact trivial | refine⟨rfl,?_⟩
    repeat' first | exact trivial | refine⟨rfl,?_⟩
   have n1:¬ w=dz:=by simpa [dz] using Z
   refine W.seq (W.region ?_);iterate 2 refine pE rfl ?_
   refine WO.nil (qs (ab rfl (fun ad=>?_) (fun ad=>?_)));·
    have hw:w=bP:=by simpa [bP] using ad
    rw[show gl f id e w=nJ id from by unfold gl;rw[if_neg n1,if_pos hw]];refine W.region (pE rfl (pu (ao rfl rfl rfl (iy ..) rfl) rfl ?_));refine ar aa rfl rfl rfl rfl rfl rfl rfl rfl (WO.nil (be (cO [0,1,2,3,5,4] rfl ?_ ⟨rfl,rfl,rfl,rfl,rfl,rfl,rfl,rfl,trivial⟩ ?_ trivial rfl)));·repeat' first | exact trivial | refine⟨rfl,?_⟩
    repeat' first | exact trivial | refine⟨rfl,?_⟩
   have n2:¬ w=bP:=by simpa [bP] using ad
   refine W.seq (W.region ?_);iterate 2 refine pE rfl ?_
   refine WO.nil (qs (ab rfl (fun ai=>?_) (fun ai=>?_)));·
    have hw:w=bk:=by simpa [bk] using ai
    rw[show gl f id e w=tJ e.name from by unfold gl;rw[if_neg n1,if_neg n2,if_pos hw]];refine W.region (pE rfl (pE rfl (pu (ao rfl rfl rfl (il ..) rfl) rfl ?_)));refine ar aa rfl rfl rfl rfl rfl rfl rfl rfl (WO.nil (be (cO [0,1,2,3,5,4] rfl ?_ ⟨rfl,rfl,rfl,rfl,rfl,rfl,rfl,rfl,trivial⟩ ?_ trivial rfl)));·repeat' first | exact trivial | refine⟨rfl,?_⟩
    repeat' first | exact trivial | refine⟨rfl,?_⟩
   have n3:¬ w=bk:=by simpa [bk] using ai
   refine W.seq (W.region ?_);iterate 2 refine pE rfl ?_
   refine WO.nil (qs (ab rfl (fun aj=>?_) (fun aj=>?_)));·
    have hw:w=cT:=by simpa [cT] using aj
    rw[show gl f id e w=nJ e.time from by unfold gl;rw[if_neg n1,if_neg n2,if_neg n3,if_pos hw]];refine W.region (pE rfl (pE rfl (pu (ao rfl rfl rfl (iy ..) rfl) rfl ?_)));refine ar aa rfl rfl rfl rfl rfl rfl rfl rfl (WO.nil (be (cO [0,1,2,3,5,4] rfl ?_ ⟨rfl,rfl,rfl,rfl,rfl,rfl,rfl,rfl,trivial⟩ ?_ trivial rfl)));·repeat' first | exact trivial | refine⟨rfl,?_⟩
    repeat' first | exact trivial | refine⟨rfl,?_⟩
   have n4:¬ w=cT:=by simpa [cT] using aj
   refine W.seq (W.region ?_);iterate 2 refine pE rfl ?_
   refine WO.nil (qs (ab rfl (fun a1=>?_) (fun a1=>?_)));·
    have hw:w=aR:=by simpa [aR] using a1
    rw[show gl f id e w=.mk 5 0 bq [] (e.stack.map tJ) from by unfold gl;rw[if_neg n1,if_neg n2,if_neg n3,if_neg n4,if_pos hw],eO];refine W.seq (W.region (pu (build aa rfl rfl rfl rfl) rfl ?_));refine ar aa rfl rfl rfl rfl rfl rfl rfl rfl (WO.nil (qs (W.seq (W.region (pE rfl (pE rfl ?_))))));iterate 2 refine pE rfl ?_
    refine WO.nil (qs (W.block (gY 5 3 rfl rfl rfl ?_)));refine ez 5 4 rfl rfl rfl ?_;refine W.len (t:=65) rfl rfl (fun hlen=>?_);try simp only[List.length_map,Ex.aF] at hlen
    refine W.bh (ι:={x:Nat×List JV // match x with | (q,J)=>q≤e.stack.length∧J=(e.stack.take q).map tJ})
     (fun x=>match x.1 with | (q,J)=>[(3,.ptr 0 0),(4,.ptr 1 0),(6,.ptr 2 0),(7,.ptr 3 0),(10,.ptr 4 0),(67,.d (.v (.int .i64 ((q:Nat):Int))))]) [(0,_),(32,_),(33,_),(34,_),(65,_),(66,_)]
     (fun x=>match x.1 with | (q,J)=>[(0,e.c.map A.d),(1,wZ),(2,f.c.map A.d),(3,[.d (ci 6),.d (ci 0),.d (cs bq),.d (.sl (l.map sc)),.own 5 (acc.map JV.c)]),(4,[.d (ci 5),.d (ci 0),.d (cs bq),.d (.sl []),.own 6 (J.map JV.c)])]) [] [5,6] 7 (fun x=>match x.1 with | (q,J)=>e.stack.length - q)
     [0,1,2,3,5,4,6] ⟨(0,[]),?_⟩ rfl ?_ ⟨rfl,rfl,rfl,rfl,rfl,rfl,rfl,rfl,rfl,rfl,rfl,rfl,trivial⟩ ?_ trivial rfl ?_
    ·exact⟨Nat.zero_le _,rfl⟩
    ·repeat' first | exact trivial | refine⟨rfl,?_⟩
    ·repeat' first | exact trivial | refine⟨rfl,?_⟩
    rintro⟨⟨q,J⟩,hk,N⟩;show W _ _ _ _ _ ⟨[(3,.ptr 0 0),(4,.ptr 1 0),(6,.ptr 2 0),(7,.ptr 3 0),(10,.ptr 4 0),(67,.d (.v (.int .i64 ((q:Nat):Int)))),(0,_),(32,_),(33,_),(34,_),(65,_),(66,_)],[(0,e.c.map A.d),(1,wZ),(2,f.c.map A.d),(3,[.d (ci 6),.d (ci 0),.d (cs bq),.d (.sl (l.map sc)),.own 5 (acc.map JV.c)]),(4,[.d (ci 5),.d (ci 0),.d (cs bq),.d (.sl []),.own 6 (J.map JV.c)])],[5,6],7⟩;have ch:J.length≤e.stack.length:=by rw[N,List.length_map,List.length_take];omega
    refine W.seq (W.region (pE rfl (WO.nil (qs (W.seq (bu (l:=e.stack) (k:=q) rfl (by simp[Ex.aF,au]) hk (fun u U hd X=>?_) (fun he hd=>?_)))))));·
     refine W.skip (qs (W.seq (W.block (W.seq (W.region (pu (indexAddr (l:=sc u) aa rfl rfl rfl rfl rfl rfl (Int.natCast_nonneg _) (aM U) rfl) rfl ?_))))));refine pE rfl (pE rfl (WO.nil (qs (W.pw aa [] [] [] [] 5 (by kernel_rfl) (by kernel_rfl) rfl rfl ?_))));refine' bb (ev aa rfl) ?p_1 rfl rfl rfl (by kernel_rfl) rfl ?h_1;case' h_1=>skip
     case p_1=>refine⟨fun I=>(ae I (by kernel_rfl)).elim,?_⟩ <;> intro I <;> first | exact⟨ev aa rfl,fun h=>nomatch h⟩ | exact(ae I (by kernel_rfl)).elim
     refine' bb (ev aa rfl) ?p_2 rfl rfl rfl (by kernel_rfl) rfl ?h_2;case' h_2=>skip
     case p_2=>refine⟨fun I=>(ae I (by kernel_rfl)).elim,?_⟩ <;> intro I <;> first | exact⟨ev aa rfl,fun h=>nomatch h⟩ | exact⟨dL aa rfl rfl rfl rfl,fun h=>nomatch h⟩ | exact⟨dM aa rfl rfl rfl rfl rfl,fun h=>nomatch h⟩ | exact(ae I (by kernel_rfl)).elim
     refine' bb (ev aa rfl) ?p_3 rfl rfl rfl (by kernel_rfl) rfl ?h_3;case' h_3=>skip
     case p_3=>refine⟨fun I=>(ae I (by kernel_rfl)).elim,?_⟩ <;> intro I <;> first | exact⟨ev aa rfl,fun h=>nomatch h⟩ | exact(ae I (by kernel_rfl)).elim
     refine' bb (ao rfl rfl rfl (il ..) rfl) ?p_4 rfl rfl rfl (by kernel_rfl) rfl ?h_4;case' h_4=>skip
     case p_4=>refine⟨fun I=>(ae I (by kernel_rfl)).elim,?_⟩ <;> intro I <;> first | exact⟨ao rfl rfl rfl (il ..) rfl,fun h=>nomatch h⟩ | exact(ae I (by kernel_rfl)).elim
     refine' bb (ba aa rfl rfl rfl rfl rfl rfl rfl rfl rfl) ?p_5 rfl rfl rfl (by kernel_rfl) rfl ?h_5;case' h_5=>skip
     case p_5=>refine⟨fun I=>(ae I (by kernel_rfl)).elim,?_⟩ <;> intro I <;> first | exact⟨ba aa rfl rfl rfl rfl rfl rfl rfl rfl rfl,fun h=>nomatch h⟩ | exact(ae I (by kernel_rfl)).elim
     refine CD.nil ?_ rfl;refine eE (fn:=JV.c) (a:=tJ u) aa rfl rfl rfl rfl rfl rfl rfl rfl rfl rfl (fun _=>rfl) (by show(J.length+1)*80≤_;omega) ?_;refine pE rfl (ar aa rfl rfl rfl rfl rfl rfl rfl rfl (WO.nil (be (qs (W.region ?_)))));iterate 2 refine pE rfl ?_
     refine WO.nil (W.bt [0,1,2,3,4,5,7] ⟨(q+1,J++[tJ u]),?_⟩ ?_ rfl ?_ ⟨rfl,rfl,rfl,rfl,rfl,rfl,rfl,rfl,rfl,rfl,rfl,rfl,trivial⟩ ?_ trivial rfl);·exact⟨X,by rw[List.take_add_one,U,List.map_append,N];rfl⟩
     ·dsimp only;omega
     ·repeat' first | exact trivial | refine⟨rfl,?_⟩ | refine⟨aL (by assumption) (by assumption),?_⟩
     repeat' first | exact trivial | refine⟨rfl,?_⟩
    have a8:J=e.stack.map tJ:=by rw[N,he,List.take_length]
    refine C5 4 4 rfl rfl rfl ?_;subst a8;refine W.exit (aW (aT (aS (be (cO [0,1,2,3,4,5] rfl ?_ ⟨rfl,rfl,rfl,rfl,rfl,rfl,rfl,rfl,trivial⟩ ?_ trivial rfl)))));·repeat' first | exact trivial | refine⟨rfl,?_⟩
    repeat' first | exact trivial | refine⟨rfl,?_⟩
   have n5:¬ w=aR:=by simpa [aR] using a1
   refine W.seq (W.region (pE rfl (pE rfl ?_)));iterate 2 refine pE rfl ?_
   refine WO.nil (qs (ab rfl (fun a6=>?_) (fun a6=>?_)));·
    have hw:w=f.n:=by simpa using a6
    rw[show gl f id e w=nJ e.n from by unfold gl;rw[if_neg n1,if_neg n2,if_neg n3,if_neg n4,if_neg n5,if_pos hw]];refine W.region (pE rfl (pE rfl (pu (ao rfl rfl rfl (iy ..) rfl) rfl ?_)));refine ar aa rfl rfl rfl rfl rfl rfl rfl rfl (WO.nil (be (cO [0,1,2,3,5,4] rfl ?_ ⟨rfl,rfl,rfl,rfl,rfl,rfl,rfl,rfl,trivial⟩ ?_ trivial rfl)));·repeat' first | exact trivial | refine⟨rfl,?_⟩
    repeat' first | exact trivial | refine⟨rfl,?_⟩
   have n6:¬ w=f.n:=by simpa using a6
   rw[show gl f id e w=nJ e.m from by unfold gl;rw[if_neg n1,if_neg n2,if_neg n3,if_neg n4,if_neg n5,if_neg n6]];refine W.region (pE rfl (pE rfl (pu (ao rfl rfl rfl (iy ..) rfl) rfl ?_)));refine ar aa rfl rfl rfl rfl rfl rfl rfl rfl (WO.nil (be (cO [0,1,2,3,5,4] rfl ?_ ⟨rfl,rfl,rfl,rfl,rfl,rfl,rfl,rfl,trivial⟩ ?_ trivial rfl)));·repeat' first | exact trivial | refine⟨rfl,?_⟩
   repeat' first | exact trivial | refine⟨rfl,?_⟩
  refine qs (W.region (pE rfl (pE rfl (pE rfl (pu (ba aa rfl rfl rfl rfl rfl rfl rfl rfl rfl) rfl ?_)))));refine eE (fn:=JV.c) (a:=gl f id e w) aa rfl rfl rfl rfl rfl rfl rfl rfl rfl rfl (fun _=>rfl) (by show(acc.length+1)*80≤_;omega) ?_;refine pE rfl (ar aa rfl rfl rfl rfl rfl rfl rfl rfl (WO.nil (be (qs (W.region ?_)))));iterate 2 refine pE rfl ?_
  refine WO.nil (W.bt [0,1,2,3,6] ⟨(k+1,acc++[gl f id e w]),?_⟩ ?_ rfl ?_ ⟨rfl,rfl,rfl,rfl,rfl,rfl,trivial⟩ ?_ trivial rfl);·exact⟨X,by rw[List.take_add_one,U,List.map_append,M];rfl⟩
  ·dsimp only;omega
  ·repeat' first | exact trivial | refine⟨rfl,?_⟩ | refine⟨aL (by assumption) (by assumption),?_⟩
  repeat' first | exact trivial | refine⟨rfl,?_⟩
 have b0:acc=l.map (gl f id e):=by rw[M,he,List.take_length]
 refine W.exit (aW (aT (aS (qs (W.seq (W.region (pE rfl (ar aa rfl rfl rfl rfl rfl rfl rfl rfl (WO.nil (qs (W.ret (QV.aw aa trivial rfl ?_))))))))))));rw[show xz f id e=.mk 6 0 bq l (l.map (gl f id e)) from by rw[hl];rfl,eO,b0];rfl
end Go.Proofs.YtpiaiiopakafhaaGreatDoor
namespace Go.Proofs.YtpiaiiopakafhaaGreatDoor
open Go.Ab Go.Tb
set_option maxRecDepth 10000
set_option maxHeartbeats 1000000
attribute [local irreducible] W WO Pu QS QB QL QF QV bA CH QE
end Go.Proofs.YtpiaiiopakafhaaGreatDoor
namespace Go.Proofs.YtpiaiiopakafhaaGreatDoor
open Go.Ab Go.Tb
set_option maxRecDepth 10000
set_option maxHeartbeats 1000000
attribute [local irreducible] W WO Pu QS QB QL QF QV bA CH QE
theorem EL (b:UInt8):(cv b).length≤2:=by unfold cv;split <;> (try split) <;> (try split) <;> simp
theorem sf:∀ l:List UInt8,(l.flatMap cv).length≤2*l.length
 | []=>by simp
 | b::l=>by have h1:=EL b;have h2:=sf l;simp only[List.flatMap_cons,List.length_append,List.length_cons];omega
theorem gZ (t:ByteArray) (l:List UInt8):ak (t++bytesOf l)=ak t++l:=by simp[ak,bytesOf]
theorem Fo {b:UInt8} (h:(b.toNat:Int)=34∨(b.toNat:Int)=92) (t:ByteArray):t++B #[92]++bytesOf [b]=t++bytesOf (cv b):=by
 have e:b=34∨b=92:=by
  rcases h with h | h
  ·exact .inl (UInt8.toNat_inj.1 (by show b.toNat=34;omega))
  exact .inr (UInt8.toNat_inj.1 (by show b.toNat=92;omega))
 refine jc ?_;unfold cv;rw[if_pos e];simp[ak,bytesOf]
theorem Gu {b:UInt8} (h:(b.toNat:Int)=10) (t:ByteArray):t++B #[92,110]=t++bytesOf (cv b):=by have e:b=10:=UInt8.toNat_inj.1 (by show b.toNat=10;omega);subst e;rfl
theorem GN {b:UInt8} (h:(b.toNat:Int)=9) (t:ByteArray):t++B #[92,116]=t++bytesOf (cv b):=by have e:b=9:=UInt8.toNat_inj.1 (by show b.toNat=9;omega);subst e;rfl
theorem GK {b:UInt8} (h1:¬ (b.toNat:Int)=34) (h2:¬ (b.toNat:Int)=92) (h3:¬ (b.toNat:Int)=10) (h4:¬ (b.toNat:Int)=9):cv b=[b]:=by unfold cv;rw[if_neg (by rintro(rfl | rfl) <;> simp at h1 h2),if_neg (by rintro rfl;simp at h3),if_neg (by rintro rfl;simp at h4)]
end Go.Proofs.YtpiaiiopakafhaaGreatDoor
namespace Go.Proofs.YtpiaiiopakafhaaGreatDoor
open Go.Ab Go.Tb
set_option maxRecDepth 10000
set_option maxHeartbeats 1000000
attribute [local irreducible] W WO Pu QS QB QL QF QV bA CH QE
theorem eL (b:UInt8):(bytesOf [b]).size=1∧∀ x,(bytesOf [b]).data[0]? = some x→(x.toNat:Int)=(b.toNat:Int):=⟨rfl,by intro x I;cases I;rfl⟩
theorem kE (t:ByteArray) (a b:List UInt8):t++bytesOf a++bytesOf b=t++bytesOf (a++b):=by refine jc ?_;show ak _=ak _;rw[gZ,gZ,gZ,List.append_assoc]
theorem ea (t:ByteArray) (a:List UInt8):(t++bytesOf a).size=t.size+a.length:=by rw[vJ]<;>rfl
theorem eo {u:Bool} {s m r:ByteArray} {c:Int} (e:s++m=r) (hm:m.size=1) (I:∀ b,m.data[0]? = some b→(b.toNat:Int)=c) (hb:s.size+1≤140737488355328):bz Tryz.prog 139 [.ptr 0 0,.d (.v (.int .u8 c))] [[.np 0 tB u,.bf 1 tU s]] 1 (.d (.v .nilIface)) [[.np 0 tB true,.bf 1 tU r]] 1:=e▸ny u s c m hm I hb
theorem kn {u:Bool} {s x r:ByteArray} (e:s++x=r) (hb:s.size+x.size≤140737488355328):bz Tryz.prog 137 [.ptr 0 0,.d (.v (.string x))] [[.np 0 tB u,.bf 1 tU s]] 1 (.tup [.d (.v (.int .i64 x.size)),.d (.v .nilIface)]) [[.np 0 tB true,.bf 1 tU r]] 1:=e▸Aa u s x hb
theorem Cg (u:Bool) (t s:ByteArray) (hz:t.size+2*s.size+2≤140737488355328):bz Tryz.prog 138 [.ptr 0 0,.d (.v (.string s))] [[.np 0 tB u,.bf 1 tU t]] 1 (.tup []) [[.np 0 tB true,.bf 1 tU (t++bytesOf (cD (ak s)))]] 1:=by
 refine bz.cX aa (n:=39) (rs:=[]) Tryz.func138 (by kernel_rfl) rfl Tryz.ntmps138 Tryz.results138 rfl rfl fun C hC hG=>?_;refine W.seq (W.region (pE rfl (aK [0] [1] rfl rfl rfl rfl rfl ((ny u t 34 (bytesOf [34]) rfl (eL 34).2 (by omega))) rfl rfl (by rfl) (by rfl) rfl rfl rfl rfl ?_)));refine WO.nil (qs ?_);iterate 2 refine W.seq ?_
 refine W.region ?_;iterate 3 refine pE rfl ?_
 refine WO.nil (qs (W.block (W.jC (t:=1) rfl (fun hok=>?_))));have hlen:=iR hok
 refine W.bh (ι:={x:Nat×ByteArray // match x with | (k,T)=>k≤(ak s).length∧T=t++bytesOf (34::((ak s).take k).flatMap cv)})
  (fun x=>match x.1 with | (k,T)=>[(0,.ptr 0 0),(10,.d (.v (.int .i64 ((k:Nat):Int))))]) [(1,_),(9,_)]
  (fun x=>match x.1 with | (k,T)=>[(0,[.np 0 tB true,.bf 1 tU T])]) [] [1] 2 (fun x=>match x.1 with | (k,T)=>(ak s).length - k)
  [0,3] ⟨(0,t++bytesOf [34]),?_⟩ rfl ?_ ⟨rfl,rfl,rfl,rfl,trivial⟩ ?_ trivial rfl ?_
 ·exact⟨Nat.zero_le _,by simp⟩
 ·repeat' first | exact trivial | refine⟨rfl,?_⟩
 ·repeat' first | exact trivial | refine⟨rfl,?_⟩
 rintro⟨⟨k,T⟩,hk,N⟩;show W _ _ _ _ _ ⟨[(0,.ptr 0 0),(10,.d (.v (.int .i64 ((k:Nat):Int)))),(1,_),(9,_)],[(0,[.np 0 tB true,.bf 1 tU T])],[1],2⟩;refine W.seq (W.region (pE rfl (WO.nil (qs (W.seq (bu (l:=ak s) (k:=k) rfl (by simp[Ex.aF,au]) hk (fun b hx hd I=>?_) (fun he hd=>?_)))))));·
  have U:T.size≤t.size+1+2*k:=by rw[N,ea];have:=sf ((ak s).take k);simp at *;omega
  have X:k+1≤s.size:=by rw[←au];omega
  have J:T++bytesOf (cv b)=t++bytesOf (34::((ak s).take (k+1)).flatMap cv):=by rw[N,kE,List.take_add_one,hx];simp
  refine W.skip (qs (W.seq (W.block (W.seq (W.region ?_)))));iterate 2 refine pE rfl ?_
  refine WO.nil (qs (W.seq (W.region ?_)));iterate 2 refine pE rfl ?_
  refine pu (db aa rfl rfl rfl rfl (Int.natCast_nonneg _) (eZ (by assumption))) rfl ?_;refine pE rfl (WO.nil (qs (W.seq (W.region (pE rfl (WO.nil (qs (W.block ?_))))))));iterate 2 refine W.seq ?_
  refine W.region ?_;iterate 2 refine pE rfl ?_
  refine WO.nil (qs (ab rfl (fun M=>?_) (fun M=>?_)));·
   refine W.skip (qs (W.fX rfl (W.seq (W.region (pE rfl (aK [0] [1] rfl rfl rfl rfl rfl ((ny true T 92 (bytesOf [92]) rfl (eL 92).2 (by omega))) rfl rfl (by rfl) (by rfl) rfl rfl rfl rfl ?_))))));refine WO.nil (qs (W.region ?_));iterate 2 refine pE rfl ?_
   refine aK [0] [3] rfl rfl rfl rfl rfl ((eo (c:=b.toNat) (s:=T++bytesOf [92]) (m:=bytesOf [b]) (Fo (b:=b) (by simp_all) T) rfl (eL b).2 (by rw[ea];simp;omega))) rfl rfl (by rfl) (by rfl) rfl rfl rfl rfl ?_;refine WO.nil (be (be (qs (W.region ?_))));iterate 2 refine pE rfl ?_
   refine WO.nil (W.bt [0,5] ⟨(k+1,T++bytesOf (cv b)),?_⟩ ?_ rfl ?_ ⟨rfl,rfl,rfl,rfl,trivial⟩ ?_ trivial rfl);·exact⟨I,J⟩
   ·dsimp only;omega
   ·repeat' first | exact trivial | refine⟨rfl,?_⟩ | refine⟨aL (by assumption) (by assumption),?_⟩
   repeat' first | exact trivial | refine⟨rfl,?_⟩
  refine W.region ?_;iterate 2 refine pE rfl ?_
  refine WO.nil (qs (ab rfl (fun M=>?_) (fun M=>?_)));·
   refine W.seq (W.region (pE rfl (aK [0] [1] rfl rfl rfl rfl rfl ((ny true T 92 (bytesOf [92]) rfl (eL 92).2 (by omega))) rfl rfl (by rfl) (by rfl) rfl rfl rfl rfl ?_)));refine WO.nil (qs (W.region ?_));iterate 2 refine pE rfl ?_
   refine aK [0] [3] rfl rfl rfl rfl rfl ((eo (c:=b.toNat) (s:=T++bytesOf [92]) (m:=bytesOf [b]) (Fo (b:=b) (by simp_all) T) rfl (eL b).2 (by rw[ea];simp;omega))) rfl rfl (by rfl) (by rfl) rfl rfl rfl rfl ?_;refine WO.nil (be (be (qs (W.region ?_))));iterate 2 refine pE rfl ?_
   refine WO.nil (W.bt [0,5] ⟨(k+1,T++bytesOf (cv b)),?_⟩ ?_ rfl ?_ ⟨rfl,rfl,rfl,rfl,trivial⟩ ?_ trivial rfl);·exact⟨I,J⟩
   ·dsimp only;omega
   ·repeat' first | exact trivial | refine⟨rfl,?_⟩ | refine⟨aL (by assumption) (by assumption),?_⟩
   repeat' first | exact trivial | refine⟨rfl,?_⟩
  refine W.seq (W.region ?_);iterate 2 refine pE rfl ?_
  refine WO.nil (qs (ab rfl (fun Z=>?_) (fun Z=>?_)));·
   refine W.region (pE rfl (aK [0] [1] rfl rfl rfl rfl rfl ((kn (s:=T) (x:=bytesOf [92,110]) (Gu (b:=b) (by simp_all) T) (by rw[show(bytesOf [92,110]).size=2 from rfl];omega))) rfl rfl (by rfl) (by rfl) rfl rfl rfl rfl ?_));refine WO.nil (be (be (qs (W.region ?_))));iterate 2 refine pE rfl ?_
   refine WO.nil (W.bt [0,3] ⟨(k+1,T++bytesOf (cv b)),?_⟩ ?_ rfl ?_ ⟨rfl,rfl,rfl,rfl,trivial⟩ ?_ trivial rfl);·exact⟨I,J⟩
   ·dsimp only;omega
   ·repeat' first | exact trivial | refine⟨rfl,?_⟩ | refine⟨aL (by assumption) (by assumption),?_⟩
   repeat' first | exact trivial | refine⟨rfl,?_⟩
  refine W.seq (W.region ?_);iterate 2 refine pE rfl ?_
  refine WO.nil (qs (ab rfl (fun ad=>?_) (fun ad=>?_)));·
   refine W.region (pE rfl (aK [0] [1] rfl rfl rfl rfl rfl ((kn (s:=T) (x:=bytesOf [92,116]) (GN (b:=b) (by simp_all) T) (by rw[show(bytesOf [92,116]).size=2 from rfl];omega))) rfl rfl (by rfl) (by rfl) rfl rfl rfl rfl ?_));refine WO.nil (be (be (qs (W.region ?_))));iterate 2 refine pE rfl ?_
   refine WO.nil (W.bt [0,3] ⟨(k+1,T++bytesOf (cv b)),?_⟩ ?_ rfl ?_ ⟨rfl,rfl,rfl,rfl,trivial⟩ ?_ trivial rfl);·exact⟨I,J⟩
   ·dsimp only;omega
   ·repeat' first | exact trivial | refine⟨rfl,?_⟩ | refine⟨aL (by assumption) (by assumption),?_⟩
   repeat' first | exact trivial | refine⟨rfl,?_⟩
  refine W.region ?_;iterate 2 refine pE rfl ?_
  refine aK [0] [1] rfl rfl rfl rfl rfl ((eo (c:=b.toNat) (s:=T) (m:=bytesOf [b]) (congrArg (fun l=>T++bytesOf l) (GK (b:=b) (by simp_all) (by simp_all) (by simp_all) (by simp_all)).symm) rfl (eL b).2 (by omega))) rfl rfl (by rfl) (by rfl) rfl rfl rfl rfl ?_;refine WO.nil (be (be (qs (W.region ?_))));iterate 2 refine pE rfl ?_
  refine WO.nil (W.bt [0,3] ⟨(k+1,T++bytesOf (cv b)),?_⟩ ?_ rfl ?_ ⟨rfl,rfl,rfl,rfl,trivial⟩ ?_ trivial rfl);·exact⟨I,J⟩
  ·dsimp only;omega
  ·repeat' first | exact trivial | refine⟨rfl,?_⟩ | refine⟨aL (by assumption) (by assumption),?_⟩
  repeat' first | exact trivial | refine⟨rfl,?_⟩
 have e:k=(ak s).length:=by have:=congrArg List.length hd;simp at this;omega
 have U:T.size≤t.size+1+2*k:=by rw[N,ea];have:=sf ((ak s).take k);simp at *;omega
 have X:k=s.size:=by rw[←au];omega
 have O:T++bytesOf [34]=t++bytesOf (cD (ak s)):=by rw[N,kE,e,List.take_length];rfl
 refine W.exit (aW (aT (aS (qs (W.region (pE rfl (aK [0] [1] rfl rfl rfl rfl rfl ((eo (c:=34) (s:=T) (m:=bytesOf [34]) O rfl (eL 34).2 (by omega))) rfl rfl (by rfl) (by rfl) rfl rfl rfl rfl ?_)))))));refine WO.nil (b7.end aa [3] trivial rfl rfl rfl rfl ?_ ?_);·exact⟨rfl,trivial⟩
 rfl
end Go.Proofs.YtpiaiiopakafhaaGreatDoor
namespace Go.Proofs.YtpiaiiopakafhaaGreatDoor
open Go.Ab Go.Tb
set_option maxRecDepth 10000
set_option maxHeartbeats 1000000
attribute [local irreducible] W WO Pu QS QB QL QF QV bA CH QE
theorem zM:∀ l:List UInt8,l.length≤(l.flatMap cv).length
 | []=>by simp
 | b::l=>by
  have h1:1≤(cv b).length:=by unfold cv;split <;> (try split) <;> (try split) <;> simp
  have h2:=zM l;simp only[List.flatMap_cons,List.length_append,List.length_cons];omega
theorem wa (s:ByteArray):s.size+2≤(cD (ak s)).length:=by have h:=zM (ak s);rw[au] at h;simp only[cD,List.length_cons,List.length_append,List.length_nil];omega
theorem re:∀ (l:List JV) (z:JV) (first:Bool),cp (l++[z]) first=cp l first++(if first && l.isEmpty then [] else [44])++aB z
 | [],z,first=>by cases first <;> simp[cp]
 | a::l,z,first=>by rw[List.cons_append,cp,cp,re l z false];simp
theorem oC:∀ (ks:List ByteArray) (l:List JV) (s:ByteArray) (z:JV) (first:Bool),ks.length=l.length→bm (ks++[s]) (l++[z]) first=bm ks l first++(if first && l.isEmpty then [] else [44])++cD (ak s)++[58]++aB z
 | [],[],s,z,first,_=>by cases first <;> simp[bm]
 | a::ks,b::l,s,z,first,h=>by rw[List.cons_append,List.cons_append,bm,bm,oC ks l s z false (by simpa using h)];simp
 | [],_::_,_,_,_,h=>by simp at h
 | _::_,[],_,_,_,h=>by simp at h
def fb (j:JV) (k:Nat):List UInt8:=if j.op=6 then bm (j.keys.take k) (j.kids.take k) true else cp (j.kids.take k) true
def lW (j:JV):UInt8:=if j.op=6 then 123 else 91
def qP (j:JV):UInt8:=if j.op=6 then 125 else 93
def cK (k:Nat):List UInt8:=if k=0 then [] else [44]
def fe (j:JV) (k:Nat):List UInt8:=if j.op=6 then cD (ak (j.keys.getD k (B #[])))++[58] else []
theorem tK (j:JV):fb j 0=[]:=by unfold fb;split <;> simp[bm,cp]
theorem Bh {l:List JV} {k:Nat} (h:k < l.length):(l.take k).isEmpty=decide (k=0):=by
 rw[Bool.eq_iff_iff];simp only[List.isEmpty_iff,decide_eq_true_eq,List.take_eq_nil_iff];constructor;·
  rintro(h1 | h1);·exact h1
  rw[h1] at h;simp at h
 exact fun h1=>.inl h1
theorem lH {j:JV} {k:Nat} {z:JV} (I:j.kids[k]? = some z) (hl:j.op=6→j.keys.length=j.kids.length):fb j (k+1)=fb j k++cK k++fe j k++aB z:=by
 have M:k < j.kids.length:=(List.getElem?_eq_some_iff.1 I).1;have hs:(if (true && (j.kids.take k).isEmpty)=true then [] else [44])=cK k:=by rw[Bh M];unfold cK;by_cases q:k=0 <;> simp[q]
 unfold fb fe;by_cases ho:j.op=6;·
  have hl:=hl ho;have J:j.keys[k]? = some (j.keys.getD k (B #[])):=by rw[List.getD_eq_getElem?_getD,List.getElem?_eq_getElem (by omega)];rfl
  simp only[if_pos ho];rw[List.take_add_one,J,List.take_add_one,I];show bm (_++[_]) (_++[_]) true=_;rw[oC _ _ _ _ _ (by simp;omega),hs];simp only[List.append_assoc]
 simp only[if_neg ho];rw[List.take_add_one,I];show cp (_++[_]) true=_;rw[re,hs];simp only[List.append_assoc,List.nil_append]
theorem zu:∀ {j:JV},j.op=6→aB j=123::(bm j.keys j.kids true++[125])
 | .mk op n s keys kids,h=>by have h:op=6:=h;subst h;rw[aB];rfl
theorem Ad:∀ {j:JV},j.op≠1→j.op≠2→j.op≠3→j.op≠4→j.op≠6→aB j=91::(cp j.kids true++[93])
 | .mk op n s keys kids,h1,h2,h3,h4,I=>by rw[aB,if_neg (show ¬ op=1 from h1),if_neg (show ¬ op=2 from h2),if_neg (show ¬ op=3 from h3),if_neg (show ¬ op=4 from h4),if_neg (show ¬ op=6 from I)];rfl
theorem qV {j:JV} (h1:j.op≠1) (h2:j.op≠2) (h3:j.op≠3) (h4:j.op≠4) (hl:j.op=6→j.keys.length=j.kids.length):aB j=lW j::(fb j j.kids.length++[qP j]):=by
 unfold lW fb qP;by_cases ho:j.op=6;·rw[zu ho,if_pos ho,if_pos ho,if_pos ho,List.take_length,←hl ho,List.take_length]
 rw[Ad h1 h2 h3 h4 ho,if_neg ho,if_neg ho,if_neg ho,List.take_length]
theorem tz {j:JV} (hl:j.op=6→j.keys.length=j.kids.length):∀ (d k:Nat),k+d=j.kids.length→(fb j k).length≤(fb j j.kids.length).length
 | 0,k,h=>by rw[←h];simp
 | d+1,k,h=>by
  have I:k < j.kids.length:=by omega
  have h1:=lH (j:=j) (k:=k) (z:=j.kids[k]) (by simp[I]) hl;have h2:=tz hl d (k+1) (by omega);rw[h1] at h2;simp only[List.length_append] at h2;omega
end Go.Proofs.YtpiaiiopakafhaaGreatDoor
namespace Go.Proofs.YtpiaiiopakafhaaGreatDoor
open Go.Ab Go.Tb
set_option maxRecDepth 10000
set_option maxHeartbeats 1000000
attribute [local irreducible] W WO Pu QS QB QL QF QV bA CH QE
theorem GP {j:JV} {lv:Int} (h:aX j lv=0):(1≤j.op∧j.op≤6)∧(j.op=2→j.n=0∨j.n=1)∧(j.op=3→eg j.n=true)∧(j.op=6→j.keys.length=j.kids.length)∧(∀ z∈j.kids,aX z (lv+1)=0):=by
 rw[eK] at h;have h0:cc j lv=0:=by
  by_cases q:cc j lv=0;·exact q
  rw[if_pos q] at h;exact h
 rw[if_neg (by simp[h0])] at h;obtain⟨I,M,_⟩:=fZ h0;have N:∀ l:List JV,b5 l (lv+1)=0→∀ z∈l,aX z (lv+1)=0:=by
  intro l
  induction l with
  | nil=>intro _ z J;cases J
  | cons a l O=>
   intro U z J;obtain⟨h1,h2⟩:=gk U;rcases List.mem_cons.1 J with rfl | J
   ·exact h1
   exact O h2 z J
 refine⟨?_,?_,?_,?_,N _ h⟩;·
  unfold bN at I;by_cases e1:j.op=1;·omega
  rw[if_neg e1] at I;by_cases e2:j.op=2∨j.op=3;·omega
  rw[if_neg e2] at I;by_cases e4:j.op=4;·omega
  rw[if_neg e4] at I;by_cases e5:j.op=5;·omega
  rw[if_neg e5] at I;by_cases e6:j.op=6;·omega
  rw[if_neg e6] at I;cases I
 ·
  intro e;by_cases q0:j.n=0;·exact .inl q0
  by_cases q1:j.n=1;·exact .inr q1
  exact absurd (.inl ⟨e,q0,q1⟩) M
 ·
  intro e
  cases hi:eg j.n with
  | true=>rfl
  | false=>exact absurd (.inr ⟨e,hi⟩) M
 intro e;unfold bN at I;rw[if_neg (by omega),if_neg (by omega),if_neg (by omega),if_neg (by omega),if_pos e] at I;simp only[Bool.and_eq_true,decide_eq_true_eq] at I;exact I.2.2
theorem E9:∀ {j:JV},j.op=1→aB j=lX
 | .mk op n s keys kids,h=>by have h:op=1:=h;subst h;rw[aB];rfl
theorem Ft:∀ {j:JV},j.op=2→aB j=if j.n=1 then ju else ie
 | .mk op n s keys kids,h=>by have h:op=2:=h;subst h;rw[aB];rfl
theorem Fv:∀ {j:JV},j.op=3→aB j=ak (dv j.n)
 | .mk op n s keys kids,h=>by have h:op=3:=h;subst h;rw[aB];rfl
theorem EV:∀ {j:JV},j.op=4→aB j=cD (ak j.s)
 | .mk op n s keys kids,h=>by have h:op=4:=h;subst h;rw[aB];rfl
theorem E5 {n:Int} (h:eg n=true):-9223372036854775808≤n∧n≤9223372036854775807:=by unfold eg at h;simp only[Bool.and_eq_true,decide_eq_true_eq] at h;omega
theorem Ed {j:JV} {k:Nat} (I:j.op=6) (hl:j.keys.length=j.kids.length) (J:k < j.kids.length):∃ s,j.keys[k]? = some s∧fe j k=cD (ak s)++[58]:=by refine⟨j.keys[k],by rw[List.getElem?_eq_getElem],?_⟩;unfold fe;rw[if_pos I,List.getD_eq_getElem?_getD,List.getElem?_eq_getElem (by omega)];rfl
theorem tl {j:JV} {k:Nat} {z:JV} (I:j.kids[k]? = some z) (hl:j.op=6→j.keys.length=j.kids.length):(fb j k).length+(cK k).length+(fe j k).length+(aB z).length≤(fb j j.kids.length).length:=by have J:k < j.kids.length:=(List.getElem?_eq_some_iff.1 I).1;have h:=tz hl (j.kids.length - (k+1)) (k+1) (by omega);rw[lH I hl] at h;simp only[List.length_append] at h;omega
end Go.Proofs.YtpiaiiopakafhaaGreatDoor
