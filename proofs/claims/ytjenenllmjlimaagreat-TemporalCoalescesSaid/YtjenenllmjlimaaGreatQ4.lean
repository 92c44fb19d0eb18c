import Derived.Test.YtjenenllmjlimaaGreatQ3
import Derived.Test.YtjenenllmjlimaaGreatChecked
import Derived.KernelRfl
namespace Go.Proofs.YtjenenllmjlimaaGreat
open Go.Ab
abbrev AA:List (Nat×cc):=[
 (2,⟨.int .i64,1,8,[.int .i64 0]⟩),
 (3,⟨.int .i64,1,8,[.int .i64 0]⟩),
 (4,⟨.bool,1,1,[.bool false]⟩),
 (5,⟨.int .u8,1,1,[.int .u8 0]⟩),
 (9,⟨.str,1,16,[.string ⟨#[]⟩]⟩),
 (12,⟨.int .u64,1,8,[.int .u64 0]⟩),
 (21,⟨.int .i32,1,4,[.int .i32 0]⟩),
 (22,⟨.slice 63,1,24,[.slice none 0 0]⟩),
 (23,⟨.slice 42,1,24,[.slice none 0 0]⟩),
 (25,⟨.st [(0,22, "Cols"),(1,23, "Rows")],2,48,[.slice none 0 0,.slice none 0 0]⟩),
 (26,⟨.slice 9,1,24,[.slice none 0 0]⟩),
 (29,⟨.int .i64,1,8,[.int .i64 0]⟩),
 (37,⟨.int .i64,1,8,[.int .i64 0]⟩),
 (39,⟨.st [(0,37, "Kind"),(1,3, "N"),(2,9, "S")],3,32,[.int .i64 0,.int .i64 0,.string ⟨#[]⟩]⟩),
 (42,⟨.slice 39,1,24,[.slice none 0 0]⟩),
 (44,⟨.slice 3,1,24,[.slice none 0 0]⟩),
 (47,⟨.int .i64,1,8,[.int .i64 0]⟩),
 (51,⟨.st [(0,3, "From"),(1,3, "To")],2,16,[.int .i64 0,.int .i64 0]⟩),
 (63,⟨.st [(0,9, "Name"),(1,37, "Type")],2,24,[.string ⟨#[]⟩,.int .i64 0]⟩),
 (66,⟨.slice 68,1,24,[.slice none 0 0]⟩),
 (68,⟨.st [(0,42, "key"),(1,51, "span")],3,40,[.slice none 0 0,.int .i64 0,.int .i64 0]⟩),
 (73,⟨.slice 25,1,24,[.slice none 0 0]⟩),
 (75,⟨.int .i64,1,8,[.int .i64 0]⟩),
 (76,⟨.slice 78,1,24,[.slice none 0 0]⟩),
 (78,⟨.st [(0,75, "Op"),(1,9, "Name"),(2,39, "V"),(5,76, "Kids")],6,80,[.int .i64 0,.string ⟨#[]⟩,.int .i64 0,.int .i64 0,.string ⟨#[]⟩,.slice none 0 0]⟩),
 (79,⟨.slice 131,1,24,[.slice none 0 0]⟩),
 (80,⟨.slice 134,1,24,[.slice none 0 0]⟩),
 (81,⟨.slice 106,1,24,[.slice none 0 0]⟩),
 (83,⟨.st [(0,47, "Op"),(1,78, "Cond"),(7,79, "Items"),(8,26, "Cols"),(9,80, "Aggs"),(10,81, "Sorts"),(11,3, "N"),(12,9, "Table")],13,208,[.int .i64 0,.int .i64 0,.string ⟨#[]⟩,.int .i64 0,.int .i64 0,.string ⟨#[]⟩,.slice none 0 0,.slice none 0 0,.slice none 0 0,.slice none 0 0,.slice none 0 0,.int .i64 0,.string ⟨#[]⟩]⟩),
 (84,⟨.slice 86,1,24,[.slice none 0 0]⟩),
 (86,⟨.st [(0,9, "Name"),(1,25, "Table")],3,64,[.string ⟨#[]⟩,.slice none 0 0,.slice none 0 0]⟩),
 (106,⟨.st [(0,9, "Col"),(1,4, "Desc")],2,24,[.string ⟨#[]⟩,.bool false]⟩),
 (126,⟨.slice 37,1,24,[.slice none 0 0]⟩),
 (131,⟨.st [(0,78, "E"),(6,9, "As")],7,96,[.int .i64 0,.string ⟨#[]⟩,.int .i64 0,.int .i64 0,.string ⟨#[]⟩,.slice none 0 0,.string ⟨#[]⟩]⟩),
 (134,⟨.st [(0,9, "Fn"),(1,9, "Col"),(2,9, "As")],3,48,[.string ⟨#[]⟩,.string ⟨#[]⟩,.string ⟨#[]⟩]⟩),
 (137,⟨.slice 22,1,24,[.slice none 0 0]⟩),
 (142,⟨.int .u64,1,8,[.int .u64 0]⟩),
 (145,⟨.slice 47,1,24,[.slice none 0 0]⟩),
 (152,⟨.st [(0,26, "names")],1,24,[.slice none 0 0]⟩),
 (160,⟨.ptr 152,1,8,[.pointer none]⟩),
 (174,⟨.int .u32,1,4,[.int .u32 0]⟩),
 (178,⟨.ptr 5,1,8,[.pointer none]⟩)]
theorem zM:AA.all (fun x=>sO Tryz.prog x.1 x.2)=true:=by kernel_rfl
abbrev aa:cB Tryz.prog:=⟨AA,zM,by kernel_rfl⟩
instance Bl:Go.Ab.fw Tryz.prog:=⟨fun _=>True⟩
section
variable {C:Ctx} {n:Nat} {ops:Array Oper} {Q:Exit→St→Prop} {rest:List Oper} {f:List (Nat×A)} {bx:List (Nat×List A)} {lv:List Nat} {gen d:Nat} {ty:TypeId} {pos:String} {af:Array Edge} {a:A}
theorem pE {op:Op} (h:Bool.rec (motive:=fun _=>Option A) none (jD aa f bx op) (Nat.blt d n)=some a) (k:WO Tryz.prog C n ops Q rest ⟨(d,a)::f,bx,lv,gen⟩):WO Tryz.prog C n ops Q (⟨some d,op,ty,pos,af,none⟩::rest) ⟨f,bx,lv,gen⟩:=by
  cases hb:Nat.blt d n with
  | false=>rw[hb] at h;exact absurd h (by simp)
  | true=>rw[hb] at h;exact pu (ev aa h) hb k
theorem pR {t:Nat} {x:Operand} {td:cc} {l:List D} (ht:aA aa.l t=some td) (hk:td.k.agg=true) (hx:av f x=some (.rowd l)) (hl:l.length=td.n) (hd:Nat.blt d n=true) (k:WO Tryz.prog C n ops Q rest ⟨(d,.ag l)::f,bx,lv,gen⟩):WO Tryz.prog C n ops Q (⟨some d,.load t x,ty,pos,af,none⟩::rest) ⟨f,bx,lv,gen⟩:=pu (bM aa ht hk hx hl) hd k
theorem pB {t:Nat} {x:Operand} {td:cc} {g:Nat} {l:List D} (ht:aA aa.l t=some td) (hk:td.k.agg=true) (hx:av f x=some (.ptr g 0)) (hb:aA bx g=some (l.map A.d)) (hl:l.length=td.n) (hd:Nat.blt d n=true) (k:WO Tryz.prog C n ops Q rest ⟨(d,.ag l)::f,bx,lv,gen⟩):WO Tryz.prog C n ops Q (⟨some d,.load t x,ty,pos,af,none⟩::rest) ⟨f,bx,lv,gen⟩:=pu (bL aa ht hk hx hb hl) hd k
end
end Go.Proofs.YtjenenllmjlimaaGreat
namespace Go.Proofs.YtjenenllmjlimaaGreat
open Go.Ab Go.Tb
set_option maxRecDepth 10000
attribute [local irreducible] W WO Pu QS QB QL QF QV b7 CH QE
theorem kT (k want:Int):ax Tryz.prog 64 [.d (.v (.int .i64 k)),.d (.v (.int .i64 want))] (.d (.v (.bool (fits k want)))) 0:=by
 refine ax.aT (n:=12) (ts:=[4]) Tryz.func64 (by kernel_rfl) rfl Tryz.ntmps64 Tryz.results64 rfl rfl fun C hC hG=>?_
 refine W.seq (W.region (pE rfl (WO.nil (qs (W.seq ?_)))))
 apply aC;(case hb=>rfl)
 ·
  iterate 4 refine pE rfl ?_
  apply aw;(case hj=>rfl);(case hl=>rfl)
  ·
   iterate 2 refine ar rfl rfl rfl rfl ?_
   iterate 2 refine pE rfl ?_
   refine WO.nil (ay rfl rfl rfl)
  refine ab rfl rfl (pE rfl (ab rfl rfl ?_))
  iterate 3 refine pE rfl ?_
  refine WO.nil (ay rfl rfl rfl)
 refine qs (W.ret (QF.aq trivial rfl ?_))
 simp[norm,az,fits]
theorem fa (k want:Int):ax Tryz.prog 77 [.d (.v (.int .i64 k)),.d (.v (.int .i64 want))] (.d (.v (.bool (fits k want)))) 0:=by
 refine ax.aT (n:=12) (ts:=[4]) Tryz.func77 (by kernel_rfl) rfl Tryz.ntmps77 Tryz.results77 rfl rfl fun C hC hG=>?_
 refine W.seq (W.region (pE rfl (WO.nil (qs (W.seq ?_)))))
 apply aC;(case hb=>rfl)
 ·
  iterate 4 refine pE rfl ?_
  apply aw;(case hj=>rfl);(case hl=>rfl)
  ·
   iterate 2 refine ar rfl rfl rfl rfl ?_
   iterate 2 refine pE rfl ?_
   refine WO.nil (ay rfl rfl rfl)
  refine ab rfl rfl (pE rfl (ab rfl rfl ?_))
  iterate 3 refine pE rfl ?_
  refine WO.nil (ay rfl rfl rfl)
 refine qs (W.ret (QF.aq trivial rfl ?_))
 simp[norm,az,fits]
theorem gB (a b want:Int):ax Tryz.prog 149 [.d (.v (.int .i64 a)),.d (.v (.int .i64 b)),.d (.v (.int .i64 want))] (.d (.v (.bool (fits a want && fits b want)))) 0:=by
 refine ax.aT (n:=15) (ts:=[6]) Tryz.func149 (by kernel_rfl) rfl Tryz.ntmps149 Tryz.results149 rfl rfl fun C hC hG=>?_
 refine W.seq (W.region (pE rfl (WO.nil (qs (W.seq ?_)))))
 apply aC;(case hb=>rfl)
 ·
  iterate 2 refine pE rfl ?_
  refine pu (ak rfl rfl rfl (fa ..) rfl) rfl ?_
  refine pE rfl ?_
  apply aw;(case hj=>rfl);(case hl=>rfl)
  ·
   refine ab rfl rfl (pE rfl (ab rfl rfl (pE rfl (ab rfl rfl (pu (ak rfl rfl rfl (fa ..) rfl) rfl ?_)))))
   iterate 2 refine pE rfl ?_
   refine WO.nil (ay rfl rfl rfl)
  iterate 3 refine ar rfl rfl rfl rfl ?_
  iterate 2 refine pE rfl ?_
  refine WO.nil (ay rfl rfl rfl)
 refine qs (W.ret (QF.aq trivial rfl ?_))
 simp[norm,az]
theorem AS (n:Int):ax Tryz.prog 91 [.d (.v (.int .i64 n))] (.d (.v (.bool (mj n)))) 0:=by
 refine ax.aT (n:=9) (ts:=[2]) Tryz.func91 (by kernel_rfl) rfl Tryz.ntmps91 Tryz.results91 rfl rfl fun C hC hG=>?_
 refine W.seq (W.region (pE rfl (WO.nil (qs (W.seq ?_)))))
 apply aC;(case hb=>rfl)
 ·
  iterate 3 refine pE rfl ?_
  apply aw;(case hj=>rfl);(case hl=>rfl)
  ·
   refine ab rfl rfl (pE rfl (ab rfl rfl ?_))
   iterate 3 refine pE rfl ?_
   refine WO.nil (ay rfl rfl rfl)
  iterate 2 refine ar rfl rfl rfl rfl ?_
  iterate 2 refine pE rfl ?_
  refine WO.nil (ay rfl rfl rfl)
 refine qs (W.ret (QF.aq trivial rfl ?_))
 simp[norm,az,mj]
theorem wQ (n:Int):ax Tryz.prog 109 [.d (.v (.int .i64 n))] (.d (.v (.bool (mj n)))) 0:=by
 refine ax.aT (n:=9) (ts:=[2]) Tryz.func109 (by kernel_rfl) rfl Tryz.ntmps109 Tryz.results109 rfl rfl fun C hC hG=>?_
 refine W.seq (W.region (pE rfl (WO.nil (qs (W.seq ?_)))))
 apply aC;(case hb=>rfl)
 ·
  iterate 3 refine pE rfl ?_
  apply aw;(case hj=>rfl);(case hl=>rfl)
  ·
   refine ab rfl rfl (pE rfl (ab rfl rfl ?_))
   iterate 3 refine pE rfl ?_
   refine WO.nil (ay rfl rfl rfl)
  iterate 2 refine ar rfl rfl rfl rfl ?_
  iterate 2 refine pE rfl ?_
  refine WO.nil (ay rfl rfl rfl)
 refine qs (W.ret (QF.aq trivial rfl ?_))
 simp[norm,az,mj]
theorem dv (ok:Bool) (k:Int):ax Tryz.prog 99 [.d (.v (.bool ok)),.d (.v (.int .i64 k))] (.tup [.d (.v (.int .i64 (if ok then k else 0))),.d (.v (.int .i64 (if ok then 0 else 14)))]) 0:=by
 refine ax.aT (n:=9) (ts:=[4,5]) Tryz.func99 (by kernel_rfl) rfl Tryz.ntmps99 Tryz.results99 rfl rfl fun C hC hG=>?_
 refine W.seq (W.region ?_)
 iterate 2 refine pE rfl ?_
 refine WO.nil (qs ?_)
 iterate 2 refine W.seq ?_
 refine W.region ?_
 iterate 2 refine pE rfl ?_
 refine WO.nil (qs (ao rfl (fun h7=>?_) (fun h7=>?_)))
 ·
  refine W.seq (W.region ?_)
  iterate 2 refine pE rfl ?_
  refine WO.nil (qs (W.ret (ah (QF.aq trivial rfl ?_))))
  simp_all[norm,az,bk]
 refine W.skip (qs (W.seq (W.region ?_)))
 iterate 3 refine pE rfl ?_
 refine WO.nil (qs (W.ret (QF.aq trivial rfl ?_)))
 simp_all[norm,az,bk]
theorem gP (s:ByteArray):ax Tryz.prog 153 [.d (.v (.string s))] (.d (.v (.int .i64 (arity s)))) 0:=by
 refine ax.aT (n:=12) (ts:=[2]) Tryz.func153 (by kernel_rfl) rfl Tryz.ntmps153 Tryz.results153 rfl rfl fun C hC hG=>?_
 refine W.seq (W.region (pE rfl (WO.nil (qs ?_))))
 iterate 2 refine W.seq ?_
 refine W.region (pE rfl (WO.nil (qs (W.block ?_))))
 iterate 2 refine W.seq ?_
 refine W.region ?_
 iterate 2 refine pE rfl ?_
 refine WO.nil (qs (ao rfl (fun h4=>?_) (fun h4=>?_)))
 ·
  refine W.skip (qs (W.cS rfl (W.seq (W.region (pE rfl (WO.nil (qs (W.ret (au (ah (QF.aq trivial rfl ?_)))))))))))
  simp_all[norm,az,arity,dT,dS,dR,bX,de,dg]
 refine W.seq (W.region ?_)
 iterate 2 refine pE rfl ?_
 refine WO.nil (qs (ao rfl (fun h4=>?_) (fun h4=>?_)))
 ·
  refine W.skip (qs (W.cS rfl (W.seq (W.region (pE rfl (WO.nil (qs (W.ret (au (ah (QF.aq trivial rfl ?_)))))))))))
  simp_all[norm,az,arity,dT,dS,dR,bX,de,dg]
 refine W.seq (W.region ?_)
 iterate 2 refine pE rfl ?_
 refine WO.nil (qs (ao rfl (fun h4=>?_) (fun h4=>?_)))
 ·
  refine W.skip (qs (W.cS rfl (W.seq (W.region (pE rfl (WO.nil (qs (W.ret (au (ah (QF.aq trivial rfl ?_)))))))))))
  simp_all[norm,az,arity,dT,dS,dR,bX,de,dg]
 refine W.region ?_
 iterate 2 refine pE rfl ?_
 refine WO.nil (qs (ao rfl (fun h4=>?_) (fun h4=>?_)))
 ·
  refine W.seq (W.region (pE rfl (WO.nil (qs (W.ret (au (ah (QF.aq trivial rfl ?_))))))))
  simp_all[norm,az,arity,dT,dS,dR,bX,de,dg]
 iterate 2 refine W.seq ?_
 refine W.region ?_
 iterate 2 refine pE rfl ?_
 refine WO.nil (qs (ao rfl (fun h9=>?_) (fun h9=>?_)))
 ·
  refine W.skip (qs (W.cS rfl (W.seq (W.region (pE rfl (WO.nil (qs (W.ret (au (ah (QF.aq trivial rfl ?_)))))))))))
  simp_all[norm,az,arity,dT,dS,dR,bX,de,dg]
 refine W.region ?_
 iterate 2 refine pE rfl ?_
 refine WO.nil (qs (ao rfl (fun h9=>?_) (fun h9=>?_)))
 ·
  refine W.seq (W.region (pE rfl (WO.nil (qs (W.ret (au (ah (QF.aq trivial rfl ?_))))))))
  simp_all[norm,az,arity,dT,dS,dR,bX,de,dg]
 refine W.skip (aX (qs (W.seq (W.region (pE rfl (WO.nil (qs (W.ret (QF.aq trivial rfl ?_)))))))))
 simp_all[norm,az,arity,dT,dS,dR,bX,de,dg]
theorem ji (op:Int):ax Tryz.prog 154 [.d (.v (.int .i64 op))] (.d (.v (.int .i64 (bt op)))) 0:=by
 refine ax.aT (n:=17) (ts:=[2]) Tryz.func154 (by kernel_rfl) rfl Tryz.ntmps154 Tryz.results154 rfl rfl fun C hC hG=>?_
 refine W.seq (W.region (pE rfl (WO.nil (qs ?_))))
 iterate 2 refine W.seq ?_
 apply aC;(case hb=>rfl)
 ·
  iterate 3 refine pE rfl ?_
  apply aw;(case hj=>rfl);(case hl=>rfl)
  ·
   iterate 2 refine ar rfl rfl rfl rfl ?_
   refine pE rfl (WO.nil (ay rfl rfl rfl))
  refine ab rfl rfl (pE rfl (ab rfl rfl ?_))
  iterate 2 refine pE rfl ?_
  refine WO.nil (ay rfl rfl rfl)
 refine qs (ao rfl (fun h8=>?_) (fun h8=>?_))
 ·
  refine W.seq (W.region (pE rfl (WO.nil (qs (W.ret (ah (QF.aq trivial rfl ?_)))))))
  simp_all[norm,az,bt]
 refine W.skip (qs ?_)
 iterate 2 refine W.seq ?_
 apply aC;(case hb=>rfl)
 ·
  iterate 3 refine pE rfl ?_
  apply aw;(case hj=>rfl);(case hl=>rfl)
  ·
   iterate 2 refine ar rfl rfl rfl rfl ?_
   refine pE rfl (WO.nil (ay rfl rfl rfl))
  refine ab rfl rfl (pE rfl (ab rfl rfl ?_))
  iterate 2 refine pE rfl ?_
  refine WO.nil (ay rfl rfl rfl)
 refine qs (ao rfl (fun h14=>?_) (fun h14=>?_))
 ·
  refine W.seq (W.region (pE rfl (WO.nil (qs (W.ret (ah (QF.aq trivial rfl ?_)))))))
  simp_all[norm,az,bt]
 refine W.skip (qs ?_)
 iterate 2 refine W.seq ?_
 refine W.region ?_
 iterate 2 refine pE rfl ?_
 refine WO.nil (qs (ao rfl (fun h16=>?_) (fun h16=>?_)))
 ·
  refine W.seq (W.region (pE rfl (WO.nil (qs (W.ret (ah (QF.aq trivial rfl ?_)))))))
  simp_all[norm,az,bt]
 refine W.skip (qs (W.seq (W.region (pE rfl (WO.nil (qs (W.ret (QF.aq trivial rfl ?_))))))))
 simp_all[norm,az,bt]
theorem sZ (k:Int) (v:aH):ax Tryz.prog 61 [.d (.v (.int .i64 k)),.ag v.c] (.d (.v (.int .i64 (bO k v)))) 0:=by
 refine ax.aT (n:=85) (ts:=[4]) Tryz.func61 (by kernel_rfl) rfl Tryz.ntmps61 Tryz.results61 rfl rfl fun C hC hG=>?_
 refine W.seq (W.region (br rfl rfl rfl (pE rfl (WO.nil (qs (W.seq ?_))))))
 apply aC;(case hb=>rfl)
 ·
  iterate 3 refine pE rfl ?_
  apply aw;(case hj=>rfl);(case hl=>rfl)
  ·
   iterate 2 refine ar rfl rfl rfl rfl ?_
   iterate 2 refine pE rfl ?_
   iterate 2 refine ar rfl rfl rfl rfl ?_
   iterate 2 refine pE rfl ?_
   refine WO.nil (ay rfl rfl rfl)
  refine ab rfl rfl (pE rfl (ab rfl rfl ?_))
  iterate 3 refine pE rfl ?_
  apply aw;(case hj=>rfl);(case hl=>rfl)
  ·
   iterate 2 refine ar rfl rfl rfl rfl ?_
   iterate 2 refine pE rfl ?_
   refine WO.nil (ay rfl rfl rfl)
  refine ab rfl rfl (pE rfl (ab rfl rfl ?_))
  iterate 3 refine pE rfl ?_
  refine WO.nil (ay rfl rfl rfl)
 refine qs (W.seq (W.block (W.seq ?_)))
 apply aC;(case hb=>rfl)
 ·
  refine pE rfl (pE rfl ?_)
  iterate 2 refine pE rfl ?_
  apply aw;(case hj=>rfl);(case hl=>rfl)
  ·
   refine ab rfl rfl (pE rfl (ab rfl rfl (pE rfl (ab rfl rfl (pE rfl (ab rfl rfl (pE rfl (ab rfl rfl (pE rfl ?_)))))))))
   apply aw;(case hj=>rfl);(case hl=>rfl)
   ·
    iterate 2 refine ar rfl rfl rfl rfl ?_
    refine ab rfl rfl ?_
    iterate 3 refine pE rfl ?_
    refine WO.nil (ay rfl rfl rfl)
   refine ab rfl rfl (pE rfl (ab rfl rfl (pE rfl (ab rfl rfl ?_))))
   iterate 3 refine pE rfl ?_
   refine WO.nil (ay rfl rfl rfl)
  iterate 5 refine ar rfl rfl rfl rfl ?_
  iterate 2 refine b8 rfl rfl rfl ?_
  refine ar rfl rfl rfl rfl ?_
  iterate 2 refine pE rfl ?_
  refine WO.nil (ay rfl rfl rfl)
 refine qs (ao rfl (fun h16=>?_) (fun h16=>?_))
 ·
  refine W.seq (W.region (pE rfl (WO.nil (qs (W.ret (au (ah (QF.aq trivial rfl ?_))))))))
  simp only[norm,az,aH.c] at *;grind[bO]
 iterate 2 refine W.seq ?_
 apply aC;(case hb=>rfl)
 ·
  refine pE rfl (pE rfl ?_)
  iterate 2 refine pE rfl ?_
  apply aw;(case hj=>rfl);(case hl=>rfl)
  ·
   refine ab rfl rfl (pE rfl (ab rfl rfl (pE rfl (ab rfl rfl ?_))))
   iterate 3 refine pE rfl ?_
   apply aw;(case hj=>rfl);(case hl=>rfl)
   ·
    refine ab rfl rfl (pE rfl (ab rfl rfl (pE rfl (ab rfl rfl ?_))))
    iterate 3 refine pE rfl ?_
    refine WO.nil (ay rfl rfl rfl)
   iterate 3 refine ar rfl rfl rfl rfl ?_
   iterate 2 refine pE rfl ?_
   refine WO.nil (ay rfl rfl rfl)
  iterate 3 refine ar rfl rfl rfl rfl ?_
  iterate 2 refine pE rfl ?_
  iterate 3 refine ar rfl rfl rfl rfl ?_
  iterate 2 refine pE rfl ?_
  refine WO.nil (ay rfl rfl rfl)
 refine qs (ao rfl (fun h30=>?_) (fun h30=>?_))
 ·
  refine W.skip (qs (W.cS rfl (W.seq (W.region (pE rfl (WO.nil (qs (W.ret (au (ah (QF.aq trivial rfl ?_)))))))))))
  simp only[norm,az,aH.c] at *;grind[bO]
 apply aC;(case hb=>rfl)
 ·
  refine pE rfl (pE rfl ?_)
  iterate 2 refine pE rfl ?_
  apply aw;(case hj=>rfl);(case hl=>rfl)
  ·
   refine ab rfl rfl (pE rfl (ab rfl rfl (pE rfl (ab rfl rfl (pu (ak rfl rfl rfl (AS ..) rfl) rfl ?_)))))
   refine ab rfl rfl ?_
   iterate 3 refine pE rfl ?_
   refine WO.nil (ay rfl rfl rfl)
  iterate 4 refine ar rfl rfl rfl rfl ?_
  iterate 2 refine pE rfl ?_
  refine WO.nil (ay rfl rfl rfl)
 refine qs (ao rfl (fun h30=>?_) (fun h30=>?_))
 ·
  refine W.seq (W.region (pE rfl (WO.nil (qs (W.ret (au (ah (QF.aq trivial rfl ?_))))))))
  simp only[norm,az,aH.c] at *;grind[bO]
 refine W.seq ?_
 apply aC;(case hb=>rfl)
 ·
  refine pE rfl (pE rfl ?_)
  iterate 2 refine pE rfl ?_
  apply aw;(case hj=>rfl);(case hl=>rfl)
  ·
   refine ab rfl rfl (pE rfl (ab rfl rfl (pE rfl (ab rfl rfl (pE rfl (ab rfl rfl ?_))))))
   iterate 3 refine pE rfl ?_
   refine WO.nil (ay rfl rfl rfl)
  iterate 4 refine ar rfl rfl rfl rfl ?_
  iterate 2 refine pE rfl ?_
  refine WO.nil (ay rfl rfl rfl)
 refine qs (ao rfl (fun h53=>?_) (fun h53=>?_))
 ·
  refine W.seq (W.region (pE rfl (WO.nil (qs (W.ret (au (ah (QF.aq trivial rfl ?_))))))))
  simp only[norm,az,aH.c] at *;grind[bO]
 iterate 2 refine W.seq ?_
 apply aC;(case hb=>rfl)
 ·
  refine pE rfl (pE rfl ?_)
  iterate 2 refine pE rfl ?_
  apply aw;(case hj=>rfl);(case hl=>rfl)
  ·
   refine ab rfl rfl (pE rfl (ab rfl rfl (pE rfl (ab rfl rfl ?_))))
   iterate 3 refine pE rfl ?_
   refine WO.nil (ay rfl rfl rfl)
  iterate 3 refine ar rfl rfl rfl rfl ?_
  iterate 2 refine pE rfl ?_
  refine WO.nil (ay rfl rfl rfl)
 refine qs (ao rfl (fun h63=>?_) (fun h63=>?_))
 ·
  refine W.skip (qs (W.cS rfl (W.seq (W.region (pE rfl (WO.nil (qs (W.ret (au (ah (QF.aq trivial rfl ?_)))))))))))
  simp only[norm,az,aH.c] at *;grind[bO]
 apply aC;(case hb=>rfl)
 ·
  refine pE rfl (pE rfl ?_)
  iterate 2 refine pE rfl ?_
  apply aw;(case hj=>rfl);(case hl=>rfl)
  ·
   iterate 3 refine ar rfl rfl rfl rfl ?_
   iterate 2 refine pE rfl ?_
   refine ab rfl rfl (pE rfl (ab rfl rfl (pE rfl (ab rfl rfl ?_))))
   iterate 3 refine pE rfl ?_
   refine WO.nil (ay rfl rfl rfl)
  refine ab rfl rfl (pE rfl (ab rfl rfl (pE rfl (ab rfl rfl ?_))))
  iterate 3 refine pE rfl ?_
  apply aw;(case hj=>rfl);(case hl=>rfl)
  ·
   refine ab rfl rfl (pE rfl (ab rfl rfl (pE rfl (ab rfl rfl ?_))))
   iterate 3 refine pE rfl ?_
   refine WO.nil (ay rfl rfl rfl)
  iterate 3 refine ar rfl rfl rfl rfl ?_
  iterate 2 refine pE rfl ?_
  refine WO.nil (ay rfl rfl rfl)
 refine qs (ao rfl (fun h63=>?_) (fun h63=>?_))
 ·
  refine W.seq (W.region (pE rfl (WO.nil (qs (W.ret (au (ah (QF.aq trivial rfl ?_))))))))
  simp only[norm,az,aH.c] at *;grind[bO]
 refine W.skip (aX (qs (W.seq (W.region (pE rfl (WO.nil (qs (W.ret (QF.aq trivial rfl ?_)))))))))
 simp only[norm,az,aH.c] at *;grind[bO]
theorem si (k:Int) (v:aH):ax Tryz.prog 74 [.d (.v (.int .i64 k)),.ag v.c] (.d (.v (.int .i64 (bO k v)))) 0:=by
 refine ax.aT (n:=78) (ts:=[4]) Tryz.func74 (by kernel_rfl) rfl Tryz.ntmps74 Tryz.results74 rfl rfl fun C hC hG=>?_
 refine W.seq (W.region (br rfl rfl rfl (pE rfl (WO.nil (qs ?_)))))
 iterate 2 refine W.seq ?_
 apply aC;(case hb=>rfl)
 ·
  refine pE rfl (pE rfl ?_)
  iterate 2 refine pE rfl ?_
  apply aw;(case hj=>rfl);(case hl=>rfl)
  ·
   refine ab rfl rfl (pE rfl (ab rfl rfl (pE rfl (ab rfl rfl (pE rfl (ab rfl rfl (pE rfl (ab rfl rfl (pE rfl ?_)))))))))
   apply aw;(case hj=>rfl);(case hl=>rfl)
   ·
    iterate 2 refine ar rfl rfl rfl rfl ?_
    refine ab rfl rfl (pE rfl (ab rfl rfl (pE rfl ?_)))
    iterate 2 refine ar rfl rfl rfl rfl ?_
    refine ab rfl rfl ?_
    iterate 2 refine pE rfl ?_
    refine WO.nil (ay rfl rfl rfl)
   refine ab rfl rfl (pE rfl (ab rfl rfl (pE rfl (ab rfl rfl (pE rfl (ab rfl rfl (pE rfl ?_)))))))
   apply aw;(case hj=>rfl);(case hl=>rfl)
   ·
    iterate 2 refine ar rfl rfl rfl rfl ?_
    refine ab rfl rfl ?_
    iterate 2 refine pE rfl ?_
    refine WO.nil (ay rfl rfl rfl)
   refine ab rfl rfl (pE rfl (ab rfl rfl (pE rfl (ab rfl rfl ?_))))
   iterate 2 refine pE rfl ?_
   refine WO.nil (ay rfl rfl rfl)
  iterate 5 refine ar rfl rfl rfl rfl ?_
  iterate 2 refine b8 rfl rfl rfl ?_
  iterate 2 refine ar rfl rfl rfl rfl ?_
  iterate 2 refine b8 rfl rfl rfl ?_
  refine ar rfl rfl rfl rfl (pE rfl (WO.nil (ay rfl rfl rfl)))
 refine qs (ao rfl (fun h21=>?_) (fun h21=>?_))
 ·
  refine W.seq (W.region (pE rfl (WO.nil (qs (W.ret (ah (QF.aq trivial rfl ?_)))))))
  simp only[norm,az,aH.c] at *;grind[bO]
 refine W.skip (qs ?_)
 iterate 2 refine W.seq ?_
 apply aC;(case hb=>rfl)
 ·
  refine pE rfl (pE rfl ?_)
  iterate 2 refine pE rfl ?_
  apply aw;(case hj=>rfl);(case hl=>rfl)
  ·
   refine ab rfl rfl (pE rfl (ab rfl rfl (pE rfl (ab rfl rfl (pE rfl (ab rfl rfl (pE rfl ?_)))))))
   apply aw;(case hj=>rfl);(case hl=>rfl)
   ·
    iterate 3 refine ar rfl rfl rfl rfl ?_
    refine ab rfl rfl ?_
    iterate 3 refine pE rfl ?_
    iterate 4 refine ar rfl rfl rfl rfl ?_
    iterate 4 refine b8 rfl rfl rfl ?_
    refine ar rfl rfl rfl rfl (pE rfl (WO.nil (ay rfl rfl rfl)))
   refine ab rfl rfl (pE rfl (ab rfl rfl (pE rfl (ab rfl rfl (pE rfl (ab rfl rfl ?_))))))
   iterate 3 refine pE rfl ?_
   apply aw;(case hj=>rfl);(case hl=>rfl)
   ·
    iterate 4 refine ar rfl rfl rfl rfl ?_
    iterate 4 refine b8 rfl rfl rfl ?_
    refine ar rfl rfl rfl rfl (pE rfl (WO.nil (ay rfl rfl rfl)))
   refine ab rfl rfl (pE rfl (ab rfl rfl (pE rfl (ab rfl rfl (pE rfl (ab rfl rfl (pE rfl ?_)))))))
   apply aw;(case hj=>rfl);(case hl=>rfl)
   ·
    refine ab rfl rfl (pE rfl (ab rfl rfl (pE rfl (ab rfl rfl (pu (ak rfl rfl rfl (wQ ..) rfl) rfl ?_)))))
    refine ab rfl rfl (pE rfl (ab rfl rfl ?_))
    iterate 2 refine pE rfl ?_
    refine WO.nil (ay rfl rfl rfl)
   iterate 4 refine ar rfl rfl rfl rfl ?_
   refine ab rfl rfl ?_
   iterate 2 refine pE rfl ?_
   refine WO.nil (ay rfl rfl rfl)
  iterate 4 refine ar rfl rfl rfl rfl ?_
  iterate 3 refine b8 rfl rfl rfl ?_
  refine ar rfl rfl rfl rfl ?_
  iterate 2 refine pE rfl ?_
  refine ab rfl rfl (pE rfl (ab rfl rfl (pE rfl (ab rfl rfl (pE rfl (ab rfl rfl (pE rfl ?_)))))))
  apply aw;(case hj=>rfl);(case hl=>rfl)
  ·
   refine ab rfl rfl (pE rfl (ab rfl rfl (pE rfl (ab rfl rfl (pu (ak rfl rfl rfl (wQ ..) rfl) rfl ?_)))))
   refine ab rfl rfl (pE rfl (ab rfl rfl ?_))
   iterate 2 refine pE rfl ?_
   refine WO.nil (ay rfl rfl rfl)
  iterate 4 refine ar rfl rfl rfl rfl ?_
  refine ab rfl rfl ?_
  iterate 2 refine pE rfl ?_
  refine WO.nil (ay rfl rfl rfl)
 refine qs (ao rfl (fun h45=>?_) (fun h45=>?_))
 ·
  refine W.seq (W.region (pE rfl (WO.nil (qs (W.ret (ah (QF.aq trivial rfl ?_)))))))
  simp only[norm,az,aH.c] at *;grind[bO]
 refine W.skip (qs ?_)
 iterate 2 refine W.seq ?_
 apply aC;(case hb=>rfl)
 ·
  refine pE rfl (pE rfl ?_)
  iterate 2 refine pE rfl ?_
  apply aw;(case hj=>rfl);(case hl=>rfl)
  ·
   refine ab rfl rfl (pE rfl (ab rfl rfl (pE rfl (ab rfl rfl (pE rfl (ab rfl rfl ?_))))))
   iterate 2 refine pE rfl ?_
   refine WO.nil (ay rfl rfl rfl)
  iterate 4 refine ar rfl rfl rfl rfl ?_
  refine pE rfl (WO.nil (ay rfl rfl rfl))
 refine qs (ao rfl (fun h54=>?_) (fun h54=>?_))
 ·
  refine W.seq (W.region (pE rfl (WO.nil (qs (W.ret (ah (QF.aq trivial rfl ?_)))))))
  simp only[norm,az,aH.c] at *;grind[bO]
 refine W.skip (qs ?_)
 iterate 2 refine W.seq ?_
 apply aC;(case hb=>rfl)
 ·
  refine pE rfl (pE rfl ?_)
  iterate 2 refine pE rfl ?_
  apply aw;(case hj=>rfl);(case hl=>rfl)
  ·
   refine ab rfl rfl (pE rfl (ab rfl rfl (pE rfl (ab rfl rfl ?_))))
   iterate 3 refine pE rfl ?_
   apply aw;(case hj=>rfl);(case hl=>rfl)
   ·
    iterate 4 refine ar rfl rfl rfl rfl ?_
    iterate 3 refine b8 rfl rfl rfl ?_
    iterate 2 refine ar rfl rfl rfl rfl ?_
    iterate 3 refine b8 rfl rfl rfl ?_
    refine ar rfl rfl rfl rfl (pE rfl (WO.nil (ay rfl rfl rfl)))
   refine ab rfl rfl (pE rfl (ab rfl rfl (pE rfl (ab rfl rfl (pE rfl (ab rfl rfl (pE rfl ?_)))))))
   apply aw;(case hj=>rfl);(case hl=>rfl)
   ·
    iterate 3 refine ar rfl rfl rfl rfl ?_
    refine ab rfl rfl (pE rfl (ab rfl rfl (pE rfl (ab rfl rfl (pE rfl (ab rfl rfl (pE rfl (ab rfl rfl (pE rfl (ab rfl rfl ?_))))))))))
    iterate 2 refine pE rfl ?_
    refine WO.nil (ay rfl rfl rfl)
   refine ab rfl rfl (pE rfl (ab rfl rfl (pE rfl (ab rfl rfl (pE rfl (ab rfl rfl (pE rfl (ab rfl rfl (pE rfl ?_)))))))))
   apply aw;(case hj=>rfl);(case hl=>rfl)
   ·
    refine ab rfl rfl (pE rfl (ab rfl rfl (pE rfl (ab rfl rfl (pE rfl (ab rfl rfl ?_))))))
    iterate 2 refine pE rfl ?_
    refine WO.nil (ay rfl rfl rfl)
   iterate 3 refine ar rfl rfl rfl rfl ?_
   refine ab rfl rfl ?_
   iterate 2 refine pE rfl ?_
   refine WO.nil (ay rfl rfl rfl)
  iterate 3 refine ar rfl rfl rfl rfl ?_
  iterate 2 refine pE rfl ?_
  refine ab rfl rfl (pE rfl (ab rfl rfl (pE rfl (ab rfl rfl (pE rfl (ab rfl rfl (pE rfl ?_)))))))
  apply aw;(case hj=>rfl);(case hl=>rfl)
  ·
   iterate 3 refine ar rfl rfl rfl rfl ?_
   refine ab rfl rfl (pE rfl (ab rfl rfl (pE rfl (ab rfl rfl (pE rfl (ab rfl rfl (pE rfl (ab rfl rfl (pE rfl (ab rfl rfl ?_))))))))))
   iterate 2 refine pE rfl ?_
   refine WO.nil (ay rfl rfl rfl)
  refine ab rfl rfl (pE rfl (ab rfl rfl (pE rfl (ab rfl rfl (pE rfl (ab rfl rfl (pE rfl (ab rfl rfl (pE rfl ?_)))))))))
  apply aw;(case hj=>rfl);(case hl=>rfl)
  ·
   refine ab rfl rfl (pE rfl (ab rfl rfl (pE rfl (ab rfl rfl (pE rfl (ab rfl rfl ?_))))))
   iterate 2 refine pE rfl ?_
   refine WO.nil (ay rfl rfl rfl)
  iterate 3 refine ar rfl rfl rfl rfl ?_
  refine ab rfl rfl ?_
  iterate 2 refine pE rfl ?_
  refine WO.nil (ay rfl rfl rfl)
 refine qs (ao rfl (fun h77=>?_) (fun h77=>?_))
 ·
  refine W.seq (W.region (pE rfl (WO.nil (qs (W.ret (ah (QF.aq trivial rfl ?_)))))))
  simp only[norm,az,aH.c] at *;grind[bO]
 refine W.skip (qs (W.seq (W.region (pE rfl (WO.nil (qs (W.ret (QF.aq trivial rfl ?_))))))))
 simp only[norm,az,aH.c] at *;grind[bO]
end Go.Proofs.YtjenenllmjlimaaGreat
namespace Go.Proofs.YtjenenllmjlimaaGreat
open Go.Ab Go.Tb
set_option maxRecDepth 10000
attribute [local irreducible] W WO Pu QS QB QL QF QV b7 CH QE
theorem od (fid:Nat) (caps:List A) (hc:Still caps) (p:Col→Bool) (hp:∀ x:Col,ax Tryz.prog fid (.ag x.c::caps) (.d (.v (.bool (p x)))) 0) (l:List Col) :
  ax Tryz.prog 53 [.d (.sl (l.map Col.c)),.clo fid caps] (.d (.v (.int .i64 (idx (l.findIdx? p))))) 0:=by
 refine ax.aT (n:=19) (ts:=[4]) Tryz.func53 (by kernel_rfl) rfl Tryz.ntmps53 Tryz.results53 rfl rfl fun C hC hG=>?_
 refine W.seq (W.region (pE rfl (WO.nil (qs ?_))))
 iterate 2 refine W.seq ?_
 refine W.region ?_
 iterate 3 refine pE rfl ?_
 refine WO.nil (qs (W.block (W.len (t:=0) rfl rfl (fun hlen=>?_))))
 try simp only[List.length_map,Ex.aF] at hlen
 refine W.aS (ι:={x:Nat // match x with | k=>k≤l.length∧bm p l k})
  (fun x=>match x.1 with | k=>[(8,.d (.v (.int .i64 ((k:Nat):Int))))]) [(0,_),(1,_),(7,_)]
  (fun x=>match x.1 with | k=>[]) [] [] 0 (fun x=>match x.1 with | k=>l.length - k)
  [] ⟨0,?_⟩ rfl ?_ ⟨rfl,(by first | rfl | exact hc.2),rfl,(by first | rfl | exact hc.2),rfl,(by first | rfl | exact hc.2),trivial⟩ ?_ trivial rfl ?_
 · exact⟨Nat.zero_le _,bm.zero⟩
 · repeat' first | exact trivial | refine⟨rfl,?_⟩
 · repeat' exact trivial
 rintro⟨k,hk,hI⟩
 show W _ _ _ _ _ ⟨[(8,.d (.v (.int .i64 ((k:Nat):Int)))),(0,_),(1,_),(7,_)],[],[],0⟩
 refine W.seq (W.region (pE rfl (WO.nil (qs (W.seq (a9 (l:=l) (k:=k) rfl (by simp[Ex.aF,aL]) hk (fun x hx hd hlt=>?_) (fun he hd=>?_)))))))
 ·
  refine W.skip (qs (W.seq (W.block (W.seq (W.region ?_)))))
  iterate 2 refine pE rfl ?_
  refine WO.nil (qs (W.seq (W.region ?_)))
  iterate 3 refine pE rfl ?_
  refine pu (indexAddr aa rfl rfl rfl rfl rfl rfl (Int.natCast_nonneg _) (aE (by assumption)) rfl) rfl ?_
  refine pE rfl (pu (ak rfl rfl (by rw[List.map_append,hc.1 _ 3];rfl) (hp x) rfl) rfl ?_)
  refine WO.nil (qs (ao rfl (fun h16=>?_) (fun h16=>?_)))
  ·
   refine W.seq (W.region ?_)
   iterate 2 refine pE rfl ?_
   refine WO.nil (qs (W.ret (au (ah (aZ (au (ah (QF.aq trivial rfl ?_))))))))
   simp only[norm,az];rw[hI.found hx h16];rfl
  refine W.skip (aX (qs (W.region ?_)))
  iterate 2 refine pE rfl ?_
  refine WO.nil (W.aU [] ⟨k+1,?_⟩ ?_ rfl ?_ ⟨rfl,(by first | rfl | exact hc.2),rfl,(by first | rfl | exact hc.2),rfl,(by first | rfl | exact hc.2),trivial⟩ ?_ trivial rfl)
  · exact⟨hlt,hI.step hx h16⟩
  · dsimp only;omega
  · repeat' first | exact trivial | refine⟨aD (by assumption) (by assumption),?_⟩
  repeat' exact trivial
 refine W.exit (aN (aQ (aO (qs (W.seq (W.region (pE rfl (WO.nil (qs (W.ret (QF.aq trivial rfl ?_)))))))))))
 simp only[norm,az];rw[hI.end_ he];rfl
theorem wP (fid:Nat) (caps:List A) (hc:Still caps) (p:ByteArray→Bool) (hp:∀ x:ByteArray,ax Tryz.prog fid (.d (.v (.string x))::caps) (.d (.v (.bool (p x)))) 0) (l:List ByteArray) :
  ax Tryz.prog 137 [.d (.sl (l.map sc)),.clo fid caps] (.d (.v (.int .i64 (idx (l.findIdx? p))))) 0:=by
 refine ax.aT (n:=19) (ts:=[4]) Tryz.func137 (by kernel_rfl) rfl Tryz.ntmps137 Tryz.results137 rfl rfl fun C hC hG=>?_
 refine W.seq (W.region (pE rfl (WO.nil (qs ?_))))
 iterate 2 refine W.seq ?_
 refine W.region ?_
 iterate 3 refine pE rfl ?_
 refine WO.nil (qs (W.block (W.len (t:=0) rfl rfl (fun hlen=>?_))))
 try simp only[List.length_map,Ex.aF] at hlen
 refine W.aS (ι:={x:Nat // match x with | k=>k≤l.length∧bm p l k})
  (fun x=>match x.1 with | k=>[(8,.d (.v (.int .i64 ((k:Nat):Int))))]) [(0,_),(1,_),(7,_)]
  (fun x=>match x.1 with | k=>[]) [] [] 0 (fun x=>match x.1 with | k=>l.length - k)
  [] ⟨0,?_⟩ rfl ?_ ⟨rfl,(by first | rfl | exact hc.2),rfl,(by first | rfl | exact hc.2),rfl,(by first | rfl | exact hc.2),trivial⟩ ?_ trivial rfl ?_
 · exact⟨Nat.zero_le _,bm.zero⟩
 · repeat' first | exact trivial | refine⟨rfl,?_⟩
 · repeat' exact trivial
 rintro⟨k,hk,hI⟩
 show W _ _ _ _ _ ⟨[(8,.d (.v (.int .i64 ((k:Nat):Int)))),(0,_),(1,_),(7,_)],[],[],0⟩
 refine W.seq (W.region (pE rfl (WO.nil (qs (W.seq (a9 (l:=l) (k:=k) rfl (by simp[Ex.aF,aL]) hk (fun x hx hd hlt=>?_) (fun he hd=>?_)))))))
 ·
  refine W.skip (qs (W.seq (W.block (W.seq (W.region ?_)))))
  iterate 2 refine pE rfl ?_
  refine WO.nil (qs (W.seq (W.region ?_)))
  iterate 3 refine pE rfl ?_
  refine pu (indexAddr aa rfl rfl rfl rfl rfl rfl (Int.natCast_nonneg _) (aE (by assumption)) rfl) rfl ?_
  refine pE rfl (pu (ak rfl rfl (by rw[List.map_append,hc.1 _ 3];rfl) (hp x) rfl) rfl ?_)
  refine WO.nil (qs (ao rfl (fun h16=>?_) (fun h16=>?_)))
  ·
   refine W.seq (W.region ?_)
   iterate 2 refine pE rfl ?_
   refine WO.nil (qs (W.ret (au (ah (aZ (au (ah (QF.aq trivial rfl ?_))))))))
   simp only[norm,az];rw[hI.found hx h16];rfl
  refine W.skip (aX (qs (W.region ?_)))
  iterate 2 refine pE rfl ?_
  refine WO.nil (W.aU [] ⟨k+1,?_⟩ ?_ rfl ?_ ⟨rfl,(by first | rfl | exact hc.2),rfl,(by first | rfl | exact hc.2),rfl,(by first | rfl | exact hc.2),trivial⟩ ?_ trivial rfl)
  · exact⟨hlt,hI.step hx h16⟩
  · dsimp only;omega
  · repeat' first | exact trivial | refine⟨aD (by assumption) (by assumption),?_⟩
  repeat' exact trivial
 refine W.exit (aN (aQ (aO (qs (W.seq (W.region (pE rfl (WO.nil (qs (W.ret (QF.aq trivial rfl ?_)))))))))))
 simp only[norm,az];rw[hI.end_ he];rfl
theorem vu (fid:Nat) (caps:List A) (hc:Still caps) (p:Int→Bool) (hp:∀ x:Int,ax Tryz.prog fid (.d (.v (.int .i64 x))::caps) (.d (.v (.bool (p x)))) 0) (l:List Int) :
  ax Tryz.prog 147 [.d (.sl (l.map ic)),.clo fid caps] (.d (.v (.int .i64 (idx (l.findIdx? p))))) 0:=by
 refine ax.aT (n:=19) (ts:=[4]) Tryz.func147 (by kernel_rfl) rfl Tryz.ntmps147 Tryz.results147 rfl rfl fun C hC hG=>?_
 refine W.seq (W.region (pE rfl (WO.nil (qs ?_))))
 iterate 2 refine W.seq ?_
 refine W.region ?_
 iterate 3 refine pE rfl ?_
 refine WO.nil (qs (W.block (W.len (t:=0) rfl rfl (fun hlen=>?_))))
 try simp only[List.length_map,Ex.aF] at hlen
 refine W.aS (ι:={x:Nat // match x with | k=>k≤l.length∧bm p l k})
  (fun x=>match x.1 with | k=>[(8,.d (.v (.int .i64 ((k:Nat):Int))))]) [(0,_),(1,_),(7,_)]
  (fun x=>match x.1 with | k=>[]) [] [] 0 (fun x=>match x.1 with | k=>l.length - k)
  [] ⟨0,?_⟩ rfl ?_ ⟨rfl,(by first | rfl | exact hc.2),rfl,(by first | rfl | exact hc.2),rfl,(by first | rfl | exact hc.2),trivial⟩ ?_ trivial rfl ?_
 · exact⟨Nat.zero_le _,bm.zero⟩
 · repeat' first | exact trivial | refine⟨rfl,?_⟩
 · repeat' exact trivial
 rintro⟨k,hk,hI⟩
 show W _ _ _ _ _ ⟨[(8,.d (.v (.int .i64 ((k:Nat):Int)))),(0,_),(1,_),(7,_)],[],[],0⟩
 refine W.seq (W.region (pE rfl (WO.nil (qs (W.seq (a9 (l:=l) (k:=k) rfl (by simp[Ex.aF,aL]) hk (fun x hx hd hlt=>?_) (fun he hd=>?_)))))))
 ·
  refine W.skip (qs (W.seq (W.block (W.seq (W.region ?_)))))
  iterate 2 refine pE rfl ?_
  refine WO.nil (qs (W.seq (W.region ?_)))
  iterate 3 refine pE rfl ?_
  refine pu (indexAddr aa rfl rfl rfl rfl rfl rfl (Int.natCast_nonneg _) (aE (by assumption)) rfl) rfl ?_
  refine pE rfl (pu (ak rfl rfl (by rw[List.map_append,hc.1 _ 3];rfl) (hp x) rfl) rfl ?_)
  refine WO.nil (qs (ao rfl (fun h16=>?_) (fun h16=>?_)))
  ·
   refine W.seq (W.region ?_)
   iterate 2 refine pE rfl ?_
   refine WO.nil (qs (W.ret (au (ah (aZ (au (ah (QF.aq trivial rfl ?_))))))))
   simp only[norm,az];rw[hI.found hx h16];rfl
  refine W.skip (aX (qs (W.region ?_)))
  iterate 2 refine pE rfl ?_
  refine WO.nil (W.aU [] ⟨k+1,?_⟩ ?_ rfl ?_ ⟨rfl,(by first | rfl | exact hc.2),rfl,(by first | rfl | exact hc.2),rfl,(by first | rfl | exact hc.2),trivial⟩ ?_ trivial rfl)
  · exact⟨hlt,hI.step hx h16⟩
  · dsimp only;omega
  · repeat' first | exact trivial | refine⟨aD (by assumption) (by assumption),?_⟩
  repeat' exact trivial
 refine W.exit (aN (aQ (aO (qs (W.seq (W.region (pE rfl (WO.nil (qs (W.ret (QF.aq trivial rfl ?_)))))))))))
 simp only[norm,az];rw[hI.end_ he];rfl
theorem xJ (l:List ByteArray) (s:ByteArray):ax Tryz.prog 71 [.d (.sl (l.map sc)),.d (.v (.string s))] (.d (.v (.int .i64 (idx (l.findIdx? fun x=>decide (s=x)))))) 0:=by
 refine ax.aT (n:=19) (ts:=[4]) Tryz.func71 (by kernel_rfl) rfl Tryz.ntmps71 Tryz.results71 rfl rfl fun C hC hG=>?_
 refine W.seq (W.region (pE rfl (WO.nil (qs ?_))))
 iterate 2 refine W.seq ?_
 refine W.region ?_
 iterate 3 refine pE rfl ?_
 refine WO.nil (qs (W.block (W.len (t:=0) rfl rfl (fun hlen=>?_))))
 try simp only[List.length_map,Ex.aF] at hlen
 refine W.aS (ι:={x:Nat // match x with | k=>k≤l.length∧bm (fun x=>decide (s=x)) l k})
  (fun x=>match x.1 with | k=>[(8,.d (.v (.int .i64 ((k:Nat):Int))))]) [(0,_),(1,_),(7,_)]
  (fun x=>match x.1 with | k=>[]) [] [] 0 (fun x=>match x.1 with | k=>l.length - k)
  [] ⟨0,?_⟩ rfl ?_ ⟨rfl,rfl,rfl,rfl,rfl,rfl,trivial⟩ ?_ trivial rfl ?_
 · exact⟨Nat.zero_le _,bm.zero⟩
 · repeat' first | exact trivial | refine⟨rfl,?_⟩
 · repeat' exact trivial
 rintro⟨k,hk,hI⟩
 show W _ _ _ _ _ ⟨[(8,.d (.v (.int .i64 ((k:Nat):Int)))),(0,_),(1,_),(7,_)],[],[],0⟩
 refine W.seq (W.region (pE rfl (WO.nil (qs (W.seq (a9 (l:=l) (k:=k) rfl (by simp[Ex.aF,aL]) hk (fun x hx hd hlt=>?_) (fun he hd=>?_)))))))
 ·
  refine W.skip (qs (W.seq (W.block (W.seq (W.region ?_)))))
  iterate 2 refine pE rfl ?_
  refine WO.nil (qs (W.seq (W.region ?_)))
  iterate 3 refine pE rfl ?_
  refine pu (indexAddr aa rfl rfl rfl rfl rfl rfl (Int.natCast_nonneg _) (aE (by assumption)) rfl) rfl ?_
  refine pE rfl (pE rfl (WO.nil (qs (ao rfl (fun h16=>?_) (fun h16=>?_)))))
  ·
   refine W.seq (W.region ?_)
   iterate 2 refine pE rfl ?_
   refine WO.nil (qs (W.ret (au (ah (aZ (au (ah (QF.aq trivial rfl ?_))))))))
   simp only[norm,az];rw[hI.found hx h16];rfl
  refine W.skip (aX (qs (W.region ?_)))
  iterate 2 refine pE rfl ?_
  refine WO.nil (W.aU [] ⟨k+1,?_⟩ ?_ rfl ?_ ⟨rfl,rfl,rfl,rfl,rfl,rfl,trivial⟩ ?_ trivial rfl)
  · exact⟨hlt,hI.step hx h16⟩
  · dsimp only;omega
  · repeat' first | exact trivial | refine⟨aD (by assumption) (by assumption),?_⟩
  repeat' exact trivial
 refine W.exit (aN (aQ (aO (qs (W.seq (W.region (pE rfl (WO.nil (qs (W.ret (QF.aq trivial rfl ?_)))))))))))
 simp only[norm,az];rw[hI.end_ he];rfl
theorem v8 (l:List Int) (s:Int):ax Tryz.prog 145 [.d (.sl (l.map ic)),.d (.v (.int .i64 s))] (.d (.v (.int .i64 (idx (l.findIdx? fun x=>decide (s=x)))))) 0:=by
 refine ax.aT (n:=19) (ts:=[4]) Tryz.func145 (by kernel_rfl) rfl Tryz.ntmps145 Tryz.results145 rfl rfl fun C hC hG=>?_
 refine W.seq (W.region (pE rfl (WO.nil (qs ?_))))
 iterate 2 refine W.seq ?_
 refine W.region ?_
 iterate 3 refine pE rfl ?_
 refine WO.nil (qs (W.block (W.len (t:=0) rfl rfl (fun hlen=>?_))))
 try simp only[List.length_map,Ex.aF] at hlen
 refine W.aS (ι:={x:Nat // match x with | k=>k≤l.length∧bm (fun x=>decide (s=x)) l k})
  (fun x=>match x.1 with | k=>[(8,.d (.v (.int .i64 ((k:Nat):Int))))]) [(0,_),(1,_),(7,_)]
  (fun x=>match x.1 with | k=>[]) [] [] 0 (fun x=>match x.1 with | k=>l.length - k)
  [] ⟨0,?_⟩ rfl ?_ ⟨rfl,rfl,rfl,rfl,rfl,rfl,trivial⟩ ?_ trivial rfl ?_
 · exact⟨Nat.zero_le _,bm.zero⟩
 · repeat' first | exact trivial | refine⟨rfl,?_⟩
 · repeat' exact trivial
 rintro⟨k,hk,hI⟩
 show W _ _ _ _ _ ⟨[(8,.d (.v (.int .i64 ((k:Nat):Int)))),(0,_),(1,_),(7,_)],[],[],0⟩
 refine W.seq (W.region (pE rfl (WO.nil (qs (W.seq (a9 (l:=l) (k:=k) rfl (by simp[Ex.aF,aL]) hk (fun x hx hd hlt=>?_) (fun he hd=>?_)))))))
 ·
  refine W.skip (qs (W.seq (W.block (W.seq (W.region ?_)))))
  iterate 2 refine pE rfl ?_
  refine WO.nil (qs (W.seq (W.region ?_)))
  iterate 3 refine pE rfl ?_
  refine pu (indexAddr aa rfl rfl rfl rfl rfl rfl (Int.natCast_nonneg _) (aE (by assumption)) rfl) rfl ?_
  refine pE rfl (pE rfl (WO.nil (qs (ao rfl (fun h16=>?_) (fun h16=>?_)))))
  ·
   refine W.seq (W.region ?_)
   iterate 2 refine pE rfl ?_
   refine WO.nil (qs (W.ret (au (ah (aZ (au (ah (QF.aq trivial rfl ?_))))))))
   simp only[norm,az];rw[hI.found hx h16];rfl
  refine W.skip (aX (qs (W.region ?_)))
  iterate 2 refine pE rfl ?_
  refine WO.nil (W.aU [] ⟨k+1,?_⟩ ?_ rfl ?_ ⟨rfl,rfl,rfl,rfl,rfl,rfl,trivial⟩ ?_ trivial rfl)
  · exact⟨hlt,hI.step hx h16⟩
  · dsimp only;omega
  · repeat' first | exact trivial | refine⟨aD (by assumption) (by assumption),?_⟩
  repeat' exact trivial
 refine W.exit (aN (aQ (aO (qs (W.seq (W.region (pE rfl (WO.nil (qs (W.ret (QF.aq trivial rfl ?_)))))))))))
 simp only[norm,az];rw[hI.end_ he];rfl
theorem eA (l:List ByteArray) (s:ByteArray):ax Tryz.prog 45 [.d (.sl (l.map sc)),.d (.v (.string s))] (.d (.v (.bool (l.any fun x=>decide (s=x))))) 0:=by
 refine ax.aT (n:=9) (ts:=[4]) Tryz.func45 (by kernel_rfl) rfl Tryz.ntmps45 Tryz.results45 rfl rfl fun C hC hG=>?_
 refine W.seq (W.region (pE rfl (WO.nil (qs (W.seq (W.region ?_))))))
 iterate 2 refine pE rfl ?_
 refine pu (ak rfl rfl rfl (xJ ..) rfl) rfl ?_
 iterate 2 refine pE rfl ?_
 refine WO.nil (qs (W.ret (QF.aq trivial rfl ?_)))
 simp only[norm,az];rw[←cF]
theorem sE (l:List Int) (s:Int):ax Tryz.prog 129 [.d (.sl (l.map ic)),.d (.v (.int .i64 s))] (.d (.v (.bool (l.any fun x=>decide (s=x))))) 0:=by
 refine ax.aT (n:=9) (ts:=[4]) Tryz.func129 (by kernel_rfl) rfl Tryz.ntmps129 Tryz.results129 rfl rfl fun C hC hG=>?_
 refine W.seq (W.region (pE rfl (WO.nil (qs (W.seq (W.region ?_))))))
 iterate 2 refine pE rfl ?_
 refine pu (ak rfl rfl rfl (v8 ..) rfl) rfl ?_
 iterate 2 refine pE rfl ?_
 refine WO.nil (qs (W.ret (QF.aq trivial rfl ?_)))
 simp only[norm,az];rw[←cF]
theorem rJ (fid:Nat) (caps:List A) (hc:Still caps) (p:ByteArray→Bool) (hp:∀ x:ByteArray,ax Tryz.prog fid (.d (.v (.string x))::caps) (.d (.v (.bool (p x)))) 0) (l:List ByteArray) :
  ax Tryz.prog 106 [.d (.sl (l.map sc)),.clo fid caps] (.d (.v (.bool (l.any p)))) 0:=by
 refine ax.aT (n:=9) (ts:=[4]) Tryz.func106 (by kernel_rfl) rfl Tryz.ntmps106 Tryz.results106 rfl rfl fun C hC hG=>?_
 refine W.seq (W.region (pE rfl (WO.nil (qs (W.seq (W.region ?_))))))
 iterate 2 refine pE rfl ?_
 refine pu (ak (args:=[.d (.sl (l.map sc)),.clo fid caps]) rfl rfl (by simp[conv,hc.1 _ 2]) (wP fid caps hc p hp l) rfl) rfl ?_
 iterate 2 refine pE rfl ?_
 refine WO.nil (qs (W.ret (QF.aq trivial rfl ?_)))
 simp only[norm,az];rw[←cF]
theorem qi (fid:Nat) (caps:List A) (hc:Still caps) (p:Int→Bool) (hp:∀ x:Int,ax Tryz.prog fid (.d (.v (.int .i64 x))::caps) (.d (.v (.bool (p x)))) 0) (l:List Int) :
  ax Tryz.prog 135 [.d (.sl (l.map ic)),.clo fid caps] (.d (.v (.bool (l.any p)))) 0:=by
 refine ax.aT (n:=9) (ts:=[4]) Tryz.func135 (by kernel_rfl) rfl Tryz.ntmps135 Tryz.results135 rfl rfl fun C hC hG=>?_
 refine W.seq (W.region (pE rfl (WO.nil (qs (W.seq (W.region ?_))))))
 iterate 2 refine pE rfl ?_
 refine pu (ak (args:=[.d (.sl (l.map ic)),.clo fid caps]) rfl rfl (by simp[conv,hc.1 _ 2]) (vu fid caps hc p hp l) rfl) rfl ?_
 iterate 2 refine pE rfl ?_
 refine WO.nil (qs (W.ret (QF.aq trivial rfl ?_)))
 simp only[norm,az];rw[←cF]
theorem xM (name:ByteArray) (x:Col):ax Tryz.prog 103 [.ag x.c,.row [.d (.v (.string name))]] (.d (.v (.bool (decide (x.name=name))))) 0:=by
 refine ax.aT (n:=8) (ts:=[3]) Tryz.func103 (by kernel_rfl) rfl Tryz.ntmps103 Tryz.results103 rfl rfl fun C hC hG=>?_
 refine W.seq (W.region (br rfl rfl rfl (pE rfl (WO.nil (qs (W.seq (W.region (pE rfl (pE rfl (pE rfl ?_))))))))))
 iterate 2 refine pE rfl ?_
 refine WO.nil (qs (W.ret (QF.aq trivial rfl ?_)))
 rfl
theorem gJ (cols:List Col) (name:ByteArray):ax Tryz.prog 67 [.d (.sl (cols.map Col.c)),.d (.v (.string name))] (.d (.v (.int .i64 (idx (cols.findIdx? fun x=>decide (x.name=name)))))) 0:=by
 refine ax.aT (n:=8) (ts:=[4]) Tryz.func67 (by kernel_rfl) rfl Tryz.ntmps67 Tryz.results67 rfl rfl fun C hC hG=>?_
 refine W.seq (W.region (br rfl rfl rfl (pE rfl (WO.nil (qs (W.seq (W.region ?_)))))))
 iterate 2 refine pE rfl ?_
 refine pu (ak rfl rfl rfl (od _ _ ⟨fun _ _=>rfl,rfl⟩ _ (xM name) cols) rfl) rfl ?_
 refine pE rfl (WO.nil (qs (W.ret (QF.aq trivial rfl ?_))))
 rfl
theorem sD (name:ByteArray) (x:Col):ax Tryz.prog 54 [.ag x.c,.row [.d (.v (.string name))]] (.d (.v (.bool (decide (x.name=name))))) 0:=by
 refine ax.aT (n:=8) (ts:=[3]) Tryz.func54 (by kernel_rfl) rfl Tryz.ntmps54 Tryz.results54 rfl rfl fun C hC hG=>?_
 refine W.seq (W.region (br rfl rfl rfl (pE rfl (WO.nil (qs (W.seq (W.region (pE rfl (pE rfl (pE rfl ?_))))))))))
 iterate 2 refine pE rfl ?_
 refine WO.nil (qs (W.ret (QF.aq trivial rfl ?_)))
 rfl
theorem rB (t:bo) (name:ByteArray):ax Tryz.prog 34 [.ag t.c,.d (.v (.string name))] (.d (.v (.int .i64 (idx (t.cols.findIdx? fun x=>decide (x.name=name)))))) 0:=by
 refine ax.aT (n:=9) (ts:=[4]) Tryz.func34 (by kernel_rfl) rfl Tryz.ntmps34 Tryz.results34 rfl rfl fun C hC hG=>?_
 refine W.seq (W.region (br rfl rfl rfl (br rfl rfl rfl (pE rfl (WO.nil (qs (W.seq (W.region (pE rfl (pE rfl (pE rfl (pu (ak rfl rfl rfl (od _ _ ⟨fun _ _=>rfl,rfl⟩ _ (sD name) t.cols) rfl) rfl ?_))))))))))))
 refine pE rfl (WO.nil (qs (W.ret (QF.aq trivial rfl ?_))))
 rfl
theorem zo (want:Int) (x:Int):ax Tryz.prog 136 [.d (.v (.int .i64 x)),.row [.d (.v (.int .i64 want))]] (.d (.v (.bool (!fits x want)))) 0:=by
 refine ax.aT (n:=8) (ts:=[3]) Tryz.func136 (by kernel_rfl) rfl Tryz.ntmps136 Tryz.results136 rfl rfl fun C hC hG=>?_
 refine W.seq (W.region (pE rfl (WO.nil (qs (W.seq (W.region (pE rfl (pE rfl (pu (ak rfl rfl rfl (kT ..) rfl) rfl ?_)))))))))
 iterate 2 refine pE rfl ?_
 refine WO.nil (qs (W.ret (QF.aq trivial rfl ?_)))
 rfl
theorem fc (l:List Int) (want:Int):ax Tryz.prog 100 [.d (.sl (l.map ic)),.d (.v (.int .i64 want))] (.d (.v (.bool (l.all fun k=>fits k want)))) 0:=by
 refine ax.aT (n:=9) (ts:=[4]) Tryz.func100 (by kernel_rfl) rfl Tryz.ntmps100 Tryz.results100 rfl rfl fun C hC hG=>?_
 refine W.seq (W.region (br rfl rfl rfl (pE rfl (WO.nil (qs (W.seq (W.region ?_)))))))
 iterate 2 refine pE rfl ?_
 refine pu (ak rfl rfl rfl (qi _ _ ⟨fun _ _=>rfl,rfl⟩ _ (zo want) l) rfl) rfl ?_
 iterate 2 refine pE rfl ?_
 refine WO.nil (qs (W.ret (QF.aq trivial rfl ?_)))
 simp[norm,az,List.all_eq_not_any_not]
end Go.Proofs.YtjenenllmjlimaaGreat
namespace Go.Proofs.YtjenenllmjlimaaGreat
open Go.Ab Go.Tb
set_option maxRecDepth 10000
attribute [local irreducible] W WO Pu QS QB QL QF QV b7 CH QE
theorem Ax (s:ByteArray) (b:UInt8):ax Tryz.prog 144 [.d (.v (.string s)),.d (.v (.int .u8 b.toNat))] (.d (.v (.int .i64 (Lib.indexByte (ck s) b)))) 0:=by
 refine ax.aT (n:=8) (ts:=[4]) Tryz.func144 (by kernel_rfl) rfl Tryz.ntmps144 Tryz.results144 rfl rfl fun C hC hG=>?_
 refine W.kS (t:=0) rfl (fun hok=>?_)
 refine W.seq (W.region (pE rfl (WO.nil (qs (W.seq (W.region ?_))))))
 iterate 2 refine pE rfl ?_
 refine pu (AK (vs:=[.string s,.int .u8 b.toNat]) rfl rfl (fun w=>(run_callFunc_extern Tryz.func151 (by kernel_rfl) (by kernel_rfl) (by kernel_rfl) (by kernel_rfl) #[.string s,.int .u8 b.toNat] w).trans (by rw[show(Extern.BytealgIndexByte.indexByte #[.string s,.int .u8 b.toNat]).run Tryz.prog w=_ from Lib.run_indexByteString s b.toNat w];rfl)) (tg hok _)) rfl ?_
 refine pE rfl (WO.nil (qs (W.ret (QF.aq trivial rfl ?_))))
 simp[norm,az,ck]
theorem jj (s:ByteArray) (b:UInt8):ax Tryz.prog 127 [.d (.v (.string s)),.d (.v (.int .u8 b.toNat))] (.d (.v (.int .i64 (Lib.indexByte (ck s) b)))) 0:=by
 refine ax.aT (n:=8) (ts:=[4]) Tryz.func127 (by kernel_rfl) rfl Tryz.ntmps127 Tryz.results127 rfl rfl fun C hC hG=>?_
 refine W.seq (W.region (pE rfl (WO.nil (qs (W.seq (W.region ?_))))))
 iterate 2 refine pE rfl ?_
 refine pu (ak rfl rfl rfl (Ax ..) rfl) rfl ?_
 refine pE rfl (WO.nil (qs (W.ret (QF.aq trivial rfl ?_))))
 rfl
theorem wD (b:UInt8):ax Tryz.prog 90 [.d (.v (.int .u8 b.toNat))] (.d (.v (.bool (fm b)))) 0:=by
 refine ax.aT (n:=30) (ts:=[2]) Tryz.func90 (by kernel_rfl) rfl Tryz.ntmps90 Tryz.results90 rfl rfl fun C hC hG=>?_
 refine W.seq (W.region (pE rfl (WO.nil (qs (W.seq ?_)))))
 apply aC;(case hb=>rfl)
 ·
  iterate 3 refine pE rfl ?_
  apply aw;(case hj=>rfl);(case hl=>rfl)
  ·
   refine ab rfl rfl (pE rfl (ab rfl rfl ?_))
   iterate 3 refine pE rfl ?_
   apply aw;(case hj=>rfl);(case hl=>rfl)
   ·
    iterate 3 refine ar rfl rfl rfl rfl ?_
    iterate 2 refine b8 rfl rfl rfl ?_
    refine ar rfl rfl rfl rfl ?_
    iterate 2 refine pE rfl ?_
    iterate 3 refine ar rfl rfl rfl rfl ?_
    iterate 2 refine b8 rfl rfl rfl ?_
    refine ar rfl rfl rfl rfl ?_
    iterate 2 refine pE rfl ?_
    iterate 3 refine ar rfl rfl rfl rfl ?_
    iterate 2 refine pE rfl ?_
    refine WO.nil (ay rfl rfl rfl)
   refine ab rfl rfl (pE rfl (ab rfl rfl (pE rfl (ab rfl rfl (pE rfl ?_)))))
   apply aw;(case hj=>rfl);(case hl=>rfl)
   ·
    refine ab rfl rfl (pE rfl (ab rfl rfl (pE rfl (ab rfl rfl ?_))))
    iterate 3 refine pE rfl ?_
    apply aw;(case hj=>rfl);(case hl=>rfl)
    ·
     iterate 3 refine ar rfl rfl rfl rfl ?_
     iterate 2 refine b8 rfl rfl rfl ?_
     refine ar rfl rfl rfl rfl ?_
     iterate 2 refine pE rfl ?_
     iterate 3 refine ar rfl rfl rfl rfl ?_
     iterate 2 refine pE rfl ?_
     refine WO.nil (ay rfl rfl rfl)
    refine ab rfl rfl (pE rfl (ab rfl rfl (pE rfl (ab rfl rfl (pE rfl ?_)))))
    apply aw;(case hj=>rfl);(case hl=>rfl)
    ·
     refine ab rfl rfl (pE rfl (ab rfl rfl (pE rfl (ab rfl rfl ?_))))
     iterate 3 refine pE rfl ?_
     apply aw;(case hj=>rfl);(case hl=>rfl)
     ·
      iterate 3 refine ar rfl rfl rfl rfl ?_
      iterate 2 refine pE rfl ?_
      refine WO.nil (ay rfl rfl rfl)
     refine ab rfl rfl (pE rfl (ab rfl rfl (pu (ak rfl rfl rfl (jj ..) rfl) rfl ?_)))
     refine ab rfl rfl ?_
     iterate 3 refine pE rfl ?_
     refine WO.nil (ay rfl rfl rfl)
    iterate 2 refine ar rfl rfl rfl rfl ?_
    refine ab rfl rfl ?_
    iterate 3 refine pE rfl ?_
    refine ab rfl rfl (pE rfl (ab rfl rfl (pu (ak rfl rfl rfl (jj ..) rfl) rfl ?_)))
    refine ab rfl rfl ?_
    iterate 3 refine pE rfl ?_
    refine WO.nil (ay rfl rfl rfl)
   iterate 2 refine ar rfl rfl rfl rfl ?_
   refine ab rfl rfl ?_
   iterate 3 refine pE rfl ?_
   refine ab rfl rfl (pE rfl (ab rfl rfl (pE rfl (ab rfl rfl (pE rfl ?_)))))
   apply aw;(case hj=>rfl);(case hl=>rfl)
   ·
    refine ab rfl rfl (pE rfl (ab rfl rfl (pE rfl (ab rfl rfl ?_))))
    iterate 3 refine pE rfl ?_
    apply aw;(case hj=>rfl);(case hl=>rfl)
    ·
     iterate 3 refine ar rfl rfl rfl rfl ?_
     iterate 2 refine pE rfl ?_
     refine WO.nil (ay rfl rfl rfl)
    refine ab rfl rfl (pE rfl (ab rfl rfl (pu (ak rfl rfl rfl (jj ..) rfl) rfl ?_)))
    refine ab rfl rfl ?_
    iterate 3 refine pE rfl ?_
    refine WO.nil (ay rfl rfl rfl)
   iterate 2 refine ar rfl rfl rfl rfl ?_
   refine ab rfl rfl ?_
   iterate 3 refine pE rfl ?_
   refine ab rfl rfl (pE rfl (ab rfl rfl (pu (ak rfl rfl rfl (jj ..) rfl) rfl ?_)))
   refine ab rfl rfl ?_
   iterate 3 refine pE rfl ?_
   refine WO.nil (ay rfl rfl rfl)
  iterate 2 refine ar rfl rfl rfl rfl ?_
  iterate 2 refine pE rfl ?_
  refine ab rfl rfl (pE rfl (ab rfl rfl (pE rfl (ab rfl rfl (pE rfl ?_)))))
  apply aw;(case hj=>rfl);(case hl=>rfl)
  ·
   refine ab rfl rfl (pE rfl (ab rfl rfl (pE rfl (ab rfl rfl ?_))))
   iterate 3 refine pE rfl ?_
   apply aw;(case hj=>rfl);(case hl=>rfl)
   ·
    iterate 3 refine ar rfl rfl rfl rfl ?_
    iterate 2 refine b8 rfl rfl rfl ?_
    refine ar rfl rfl rfl rfl ?_
    iterate 2 refine pE rfl ?_
    iterate 3 refine ar rfl rfl rfl rfl ?_
    iterate 2 refine pE rfl ?_
    refine WO.nil (ay rfl rfl rfl)
   refine ab rfl rfl (pE rfl (ab rfl rfl (pE rfl (ab rfl rfl (pE rfl ?_)))))
   apply aw;(case hj=>rfl);(case hl=>rfl)
   ·
    refine ab rfl rfl (pE rfl (ab rfl rfl (pE rfl (ab rfl rfl ?_))))
    iterate 3 refine pE rfl ?_
    apply aw;(case hj=>rfl);(case hl=>rfl)
    ·
     iterate 3 refine ar rfl rfl rfl rfl ?_
     iterate 2 refine pE rfl ?_
     refine WO.nil (ay rfl rfl rfl)
    refine ab rfl rfl (pE rfl (ab rfl rfl (pu (ak rfl rfl rfl (jj ..) rfl) rfl ?_)))
    refine ab rfl rfl ?_
    iterate 3 refine pE rfl ?_
    refine WO.nil (ay rfl rfl rfl)
   iterate 2 refine ar rfl rfl rfl rfl ?_
   refine ab rfl rfl ?_
   iterate 3 refine pE rfl ?_
   refine ab rfl rfl (pE rfl (ab rfl rfl (pu (ak rfl rfl rfl (jj ..) rfl) rfl ?_)))
   refine ab rfl rfl ?_
   iterate 3 refine pE rfl ?_
   refine WO.nil (ay rfl rfl rfl)
  iterate 2 refine ar rfl rfl rfl rfl ?_
  refine ab rfl rfl ?_
  iterate 3 refine pE rfl ?_
  refine ab rfl rfl (pE rfl (ab rfl rfl (pE rfl (ab rfl rfl (pE rfl ?_)))))
  apply aw;(case hj=>rfl);(case hl=>rfl)
  ·
   refine ab rfl rfl (pE rfl (ab rfl rfl (pE rfl (ab rfl rfl ?_))))
   iterate 3 refine pE rfl ?_
   apply aw;(case hj=>rfl);(case hl=>rfl)
   ·
    iterate 3 refine ar rfl rfl rfl rfl ?_
    iterate 2 refine pE rfl ?_
    refine WO.nil (ay rfl rfl rfl)
   refine ab rfl rfl (pE rfl (ab rfl rfl (pu (ak rfl rfl rfl (jj ..) rfl) rfl ?_)))
   refine ab rfl rfl ?_
   iterate 3 refine pE rfl ?_
   refine WO.nil (ay rfl rfl rfl)
  iterate 2 refine ar rfl rfl rfl rfl ?_
  refine ab rfl rfl ?_
  iterate 3 refine pE rfl ?_
  refine ab rfl rfl (pE rfl (ab rfl rfl (pu (ak rfl rfl rfl (jj ..) rfl) rfl ?_)))
  refine ab rfl rfl ?_
  iterate 3 refine pE rfl ?_
  refine WO.nil (ay rfl rfl rfl)
 refine qs (W.ret (QF.aq trivial rfl ?_))
 simp only[norm,az];rw[sG];simp only[fm,lower,marks];simp[ck];grind
theorem zE (s:ByteArray):ax Tryz.prog 60 [.d (.v (.string s))] (.d (.v (.int .i64 (c7 s)))) 0:=by
 refine ax.aT (n:=22) (ts:=[2]) Tryz.func60 (by kernel_rfl) rfl Tryz.ntmps60 Tryz.results60 rfl rfl fun C hC hG=>?_
 refine W.seq (W.region (pE rfl (WO.nil (qs ?_))))
 iterate 2 refine W.seq ?_
 apply aC;(case hb=>rfl)
 ·
  iterate 3 refine pE rfl ?_
  apply aw;(case hj=>rfl);(case hl=>rfl)
  ·
   iterate 3 refine ar rfl rfl rfl rfl ?_
   refine pE rfl (WO.nil (ay rfl rfl rfl))
  refine ab rfl rfl (pE rfl (ab rfl rfl (pE rfl (ab rfl rfl ?_))))
  iterate 2 refine pE rfl ?_
  refine WO.nil (ay rfl rfl rfl)
 refine qs (ao rfl (fun h10=>?_) (fun h10=>?_))
 ·
  refine W.seq (W.region (pE rfl (WO.nil (qs (W.ret (ah (QF.aq trivial rfl ?_)))))))
  simp only[norm,az];grind[c7,iN]
 refine W.skip (qs ?_)
 iterate 2 refine W.seq ?_
 refine W.region ?_
 iterate 3 refine pE rfl ?_
 refine WO.nil (qs (W.block (W.kS (t:=0) rfl (fun hok=>?_))))
 have hlen:=iU hok
 refine W.aS (ι:={x:Nat // match x with | k=>k≤(ck s).length∧((ck s).drop k).all fm=(ck s).all fm})
  (fun x=>match x.1 with | k=>[(13,.d (.v (.int .i64 ((k:Nat):Int))))]) [(0,_),(12,_)]
  (fun x=>match x.1 with | k=>[]) [] [] 0 (fun x=>match x.1 with | k=>(ck s).length - k)
  [] ⟨0,?_⟩ rfl ?_ ⟨rfl,rfl,rfl,rfl,trivial⟩ ?_ trivial rfl ?_
 · exact⟨Nat.zero_le _,rfl⟩
 · repeat' first | exact trivial | refine⟨rfl,?_⟩
 · repeat' exact trivial
 rintro⟨k,hk,hI⟩
 show W _ _ _ _ _ ⟨[(13,.d (.v (.int .i64 ((k:Nat):Int)))),(0,_),(12,_)],[],[],0⟩
 refine W.seq (W.region (pE rfl (WO.nil (qs (W.seq (a9 (l:=ck s) (k:=k) rfl (by simp[Ex.aF,aL]) hk (fun b hx hd hlt=>?_) (fun he hd=>?_)))))))
 ·
  rw[hd,List.all_cons] at hI
  refine W.skip (qs (W.seq (W.block (W.seq (W.region ?_)))))
  iterate 2 refine pE rfl ?_
  refine WO.nil (qs (W.seq (W.region ?_)))
  iterate 2 refine pE rfl ?_
  refine pu (c9 aa rfl rfl rfl rfl (Int.natCast_nonneg _) (dO (by assumption))) rfl ?_
  refine pu (ak rfl rfl rfl (wD ..) rfl) rfl ?_
  refine pE rfl (WO.nil (qs (ao rfl (fun h20=>?_) (fun h20=>?_))))
  ·
   refine W.seq (W.region (pE rfl (WO.nil (qs (W.ret (au (ah (aZ (au (ah (QF.aq trivial rfl ?_)))))))))))
   simp only[norm,az];grind[c7,iN]
  refine W.skip (aX (qs (W.region ?_)))
  iterate 2 refine pE rfl ?_
  refine WO.nil (W.aU [] ⟨k+1,?_⟩ ?_ rfl ?_ ⟨rfl,rfl,rfl,rfl,trivial⟩ ?_ trivial rfl)
  · exact⟨hlt,by rw[←hI];simp_all⟩
  · dsimp only;omega
  · repeat' first | exact trivial | refine⟨aD (by assumption) (by assumption),?_⟩
  repeat' exact trivial
 rw[hd] at hI
 refine W.exit (aN (aQ (aO (qs (W.seq (W.region (pE rfl (WO.nil (qs (W.ret (QF.aq trivial rfl ?_)))))))))))
 simp only[norm,az];grind[c7,iN]
theorem gz (s:ByteArray):ax Tryz.prog 98 [.d (.v (.string s))] (.d (.v (.bool (cC s)))) 0:=by
 refine ax.aT (n:=53) (ts:=[2]) Tryz.func98 (by kernel_rfl) rfl Tryz.ntmps98 Tryz.results98 rfl rfl fun C hC hG=>?_
 refine W.seq (W.region (pE rfl (WO.nil (qs ?_))))
 iterate 2 refine W.seq ?_
 apply aC;(case hb=>rfl)
 ·
  iterate 3 refine pE rfl ?_
  apply eI;(case hj=>rfl);(case hl=>rfl)
  ·
   intro g7
   iterate 3 refine ar rfl rfl rfl rfl ?_
   iterate 2 refine pE rfl ?_
   iterate 3 refine ar rfl rfl rfl rfl ?_
   iterate 2 refine pE rfl ?_
   iterate 3 refine ar rfl rfl rfl rfl ?_
   refine pE rfl (WO.nil (ay rfl rfl rfl))
  intro g7
  refine ab rfl rfl (pE rfl (ab rfl rfl (pE rfl (ab rfl rfl ?_))))
  iterate 3 refine pE rfl ?_
  apply eI;(case hj=>rfl);(case hl=>rfl)
  ·
   intro g12
   iterate 3 refine ar rfl rfl rfl rfl ?_
   iterate 2 refine pE rfl ?_
   iterate 3 refine ar rfl rfl rfl rfl ?_
   refine pE rfl (WO.nil (ay rfl rfl rfl))
  intro g12
  refine ab rfl rfl (pE rfl (ab rfl rfl (pu (c9 aa rfl rfl rfl rfl (Int.le_refl _) (r9 (by simpa using g7))) rfl ?_)))
  refine ab rfl rfl ?_
  iterate 3 refine pE rfl ?_
  apply eI;(case hj=>rfl);(case hl=>rfl)
  ·
   intro g17
   iterate 3 refine ar rfl rfl rfl rfl ?_
   refine pE rfl (WO.nil (ay rfl rfl rfl))
  intro g17
  refine ab rfl rfl (pE rfl (ab rfl rfl (pu (c9 aa rfl rfl rfl rfl (Int.le_refl _) (r9 (by simpa using g7))) rfl ?_)))
  refine ab rfl rfl ?_
  iterate 2 refine pE rfl ?_
  refine WO.nil (ay rfl rfl rfl)
 refine qs (ao rfl (fun h21=>?_) (fun h21=>?_))
 ·
  refine W.seq (W.region (pE rfl (WO.nil (qs (W.ret (ah (QF.aq trivial rfl ?_)))))))
  simp only[norm,az];grind[cC,iN,lower]
 refine W.skip (qs ?_)
 iterate 2 refine W.seq ?_
 refine W.region ?_
 iterate 3 refine pE rfl ?_
 refine WO.nil (qs (W.block (W.kS (t:=0) rfl (fun hok=>?_))))
 have hlen:=iU hok
 refine W.aS (ι:={x:Nat // match x with | k=>k≤(ck s).length∧((ck s).drop k).all gT=(ck s).all gT})
  (fun x=>match x.1 with | k=>[(24,.d (.v (.int .i64 ((k:Nat):Int))))]) [(0,_),(23,_)]
  (fun x=>match x.1 with | k=>[]) [] [] 0 (fun x=>match x.1 with | k=>(ck s).length - k)
  [] ⟨0,?_⟩ rfl ?_ ⟨rfl,rfl,rfl,rfl,trivial⟩ ?_ trivial rfl ?_
 · exact⟨Nat.zero_le _,rfl⟩
 · repeat' first | exact trivial | refine⟨rfl,?_⟩
 · repeat' exact trivial
 rintro⟨k,hk,hI⟩
 show W _ _ _ _ _ ⟨[(24,.d (.v (.int .i64 ((k:Nat):Int)))),(0,_),(23,_)],[],[],0⟩
 refine W.seq (W.region (pE rfl (WO.nil (qs (W.seq (a9 (l:=ck s) (k:=k) rfl (by simp[Ex.aF,aL]) hk (fun b hx hd hlt=>?_) (fun he hd=>?_)))))))
 ·
  rw[hd,List.all_cons] at hI
  refine W.skip (qs (W.seq (W.block (W.seq (W.region ?_)))))
  iterate 2 refine pE rfl ?_
  refine WO.nil (qs (W.seq (W.region ?_)))
  iterate 2 refine pE rfl ?_
  refine pu (c9 aa rfl rfl rfl rfl (Int.natCast_nonneg _) (dO (by assumption))) rfl ?_
  refine pE rfl (WO.nil (qs (W.seq ?_)))
  apply aC;(case hb=>rfl)
  ·
   iterate 3 refine pE rfl ?_
   apply eI;(case hj=>rfl);(case hl=>rfl)
   ·
    intro g32
    iterate 2 refine ar rfl rfl rfl rfl ?_
    iterate 2 refine pE rfl ?_
    refine ab rfl rfl (pE rfl (ab rfl rfl (pE rfl (ab rfl rfl (pE rfl ?_)))))
    apply eI;(case hj=>rfl);(case hl=>rfl)
    ·
     intro g39
     iterate 2 refine ar rfl rfl rfl rfl ?_
     refine ab rfl rfl ?_
     iterate 3 refine pE rfl ?_
     refine ab rfl rfl (pE rfl (ab rfl rfl ?_))
     iterate 2 refine pE rfl ?_
     refine WO.nil (ay rfl rfl rfl)
    intro g39
    refine ab rfl rfl (pE rfl (ab rfl rfl (pE rfl (ab rfl rfl ?_))))
    iterate 3 refine pE rfl ?_
    apply eI;(case hj=>rfl);(case hl=>rfl)
    ·
     intro g44
     refine ab rfl rfl (pE rfl (ab rfl rfl ?_))
     iterate 2 refine pE rfl ?_
     refine WO.nil (ay rfl rfl rfl)
    intro g44
    iterate 2 refine ar rfl rfl rfl rfl ?_
    refine pE rfl (WO.nil (ay rfl rfl rfl))
   intro g32
   refine ab rfl rfl (pE rfl (ab rfl rfl ?_))
   iterate 3 refine pE rfl ?_
   apply eI;(case hj=>rfl);(case hl=>rfl)
   ·
    intro g36
    refine ab rfl rfl (pE rfl (ab rfl rfl (pE rfl (ab rfl rfl (pE rfl ?_)))))
    apply eI;(case hj=>rfl);(case hl=>rfl)
    ·
     intro g39
     iterate 2 refine ar rfl rfl rfl rfl ?_
     refine ab rfl rfl ?_
     iterate 3 refine pE rfl ?_
     refine ab rfl rfl (pE rfl (ab rfl rfl ?_))
     iterate 2 refine pE rfl ?_
     refine WO.nil (ay rfl rfl rfl)
    intro g39
    refine ab rfl rfl (pE rfl (ab rfl rfl (pE rfl (ab rfl rfl ?_))))
    iterate 3 refine pE rfl ?_
    apply eI;(case hj=>rfl);(case hl=>rfl)
    ·
     intro g44
     refine ab rfl rfl (pE rfl (ab rfl rfl ?_))
     iterate 2 refine pE rfl ?_
     refine WO.nil (ay rfl rfl rfl)
    intro g44
    iterate 2 refine ar rfl rfl rfl rfl ?_
    refine pE rfl (WO.nil (ay rfl rfl rfl))
   intro g36
   iterate 3 refine ar rfl rfl rfl rfl ?_
   iterate 2 refine b8 rfl rfl rfl ?_
   refine ar rfl rfl rfl rfl ?_
   iterate 2 refine pE rfl ?_
   iterate 2 refine ar rfl rfl rfl rfl ?_
   refine pE rfl (WO.nil (ay rfl rfl rfl))
  refine qs (ao rfl (fun h47=>?_) (fun h47=>?_))
  ·
   refine W.seq (W.region (pE rfl (WO.nil (qs (W.ret (au (ah (aZ (au (ah (QF.aq trivial rfl ?_)))))))))))
   simp only[norm,az];simp[cC,←hI,gT,lower];grind
  refine W.skip (aX (qs (W.region ?_)))
  iterate 2 refine pE rfl ?_
  refine WO.nil (W.aU [] ⟨k+1,?_⟩ ?_ rfl ?_ ⟨rfl,rfl,rfl,rfl,trivial⟩ ?_ trivial rfl)
  · exact⟨hlt,by rw[←hI];simp[gT,lower];grind⟩
  · dsimp only;omega
  · repeat' first | exact trivial | refine⟨aD (by assumption) (by assumption),?_⟩
  repeat' exact trivial
 rw[hd] at hI
 refine W.exit (aN (aQ (aO (qs (W.seq (W.region (pu (aI aa rfl rfl rfl rfl rfl rfl rfl rfl rfl) rfl ?_)))))))
 refine pE rfl (pu (ak rfl rfl rfl (eA words s) rfl) rfl ?_)
 iterate 2 refine pE rfl ?_
 refine WO.nil (qs (W.ret (QF.aq trivial rfl ?_)))
 simp only[norm,az,cC,←hI];generalize words.any (fun w=>decide (s=w))=z;clear hI hd hok hlen hk he;simp only[List.all_nil,lower];generalize (ck s).headD 0=b at *;grind
end Go.Proofs.YtjenenllmjlimaaGreat
namespace Go.Proofs.YtjenenllmjlimaaGreat
open Go.Ab Go.Tb
set_option maxRecDepth 10000
attribute [local irreducible] W WO Pu QS QB QL QF QV b7 CH QE
theorem ll (s:ByteArray):ax Tryz.prog 111 [.d (.v (.string s))] (.d (.v (.bool (cC s)))) 0:=by
 refine ax.aT (n:=71) (ts:=[2]) Tryz.func111 (by kernel_rfl) rfl Tryz.ntmps111 Tryz.results111 rfl rfl fun C hC hG=>?_
 refine W.kS (t:=0) rfl (fun hok=>?_)
 have hlen2:=iU hok
 have hlen:words.length≤maxLen:=by decide
 refine W.seq (W.region (pE rfl (WO.nil (qs (W.seq (W.region (pu (aI aa rfl rfl rfl rfl rfl rfl rfl rfl rfl) rfl ?_)))))))
 refine pE rfl (WO.nil (qs ?_))
 iterate 2 refine W.seq ?_
 refine W.region (pE rfl (WO.nil (qs (W.block ?_))))
 refine W.aS (ι:={x:Nat // match x with | k=>k≤words.length∧bm (fun x=>decide (s=x)) words k})
  (fun x=>match x.1 with | k=>[(4,.d (.v (.int .i64 ((k:Nat):Int))))]) [(0,_),(3,_)]
  (fun x=>match x.1 with | k=>[]) [] [] 0 (fun x=>match x.1 with | k=>words.length - k)
  [] ⟨0,?_⟩ rfl ?_ ⟨rfl,rfl,rfl,rfl,trivial⟩ ?_ trivial rfl ?_
 · exact⟨Nat.zero_le _,bm.zero⟩
 · repeat' first | exact trivial | refine⟨rfl,?_⟩
 · repeat' exact trivial
 rintro⟨k,hk,hI⟩
 show W _ _ _ _ _ ⟨[(4,.d (.v (.int .i64 ((k:Nat):Int)))),(0,_),(3,_)],[],[],0⟩
 iterate 2 refine W.seq ?_
 refine W.region ?_
 iterate 4 refine pE rfl ?_
 refine WO.nil (qs (a9 (l:=words) (k:=k) rfl (by rfl) hk (fun x hx hd hlt=>?_) (fun he hd=>?_)))
 ·
  refine W.skip (qs (W.seq (W.block (W.seq (W.region ?_)))))
  iterate 3 refine pE rfl ?_
  refine pu (indexAddr aa rfl rfl rfl rfl rfl rfl (Int.natCast_nonneg _) (aE (f:=sc) (l:=words) hx) rfl) rfl ?_
  refine pE rfl (pE rfl (WO.nil (qs (ao rfl (fun h20=>?_) (fun h20=>?_)))))
  ·
   refine W.seq (W.region (pE rfl (WO.nil (qs (W.ret (au (ah (aZ (au (ah (QF.aq trivial rfl ?_)))))))))))
   simp only[norm,az,cC];rw[wZ hx h20];simp
  refine W.skip (aX (qs (W.region ?_)))
  iterate 3 refine pE rfl ?_
  refine WO.nil (W.aU [] ⟨k+1,?_⟩ ?_ rfl ?_ ⟨rfl,rfl,rfl,rfl,trivial⟩ ?_ trivial rfl)
  · exact⟨hlt,hI.step hx h20⟩
  · dsimp only;omega
  · repeat' first | exact trivial | refine⟨aD (by assumption) (by assumption),?_⟩
  repeat' exact trivial
 refine W.exit (aN (aQ (aO (qs ?_))))
 iterate 2 refine W.seq ?_
 refine W.region (pE rfl (WO.nil (qs (W.block ?_))))
 have hw:=hI.end_ he
 clear hI hk he hd hlen
 have hlen:=hlen2
 refine W.aS (ι:={x:Nat // match x with | k=>k≤(ck s).length∧((ck s).drop k).all gT=(ck s).all gT∧(0 < k→lower ((ck s).headD 0)=true)})
  (fun x=>match x.1 with | k=>[(5,.d (.v (.int .i64 ((k:Nat):Int))))]) [(0,_)]
  (fun x=>match x.1 with | k=>[]) [] [] 0 (fun x=>match x.1 with | k=>(ck s).length - k)
  [] ⟨0,?_⟩ rfl ?_ ⟨rfl,rfl,trivial⟩ ?_ trivial rfl ?_
 · exact⟨Nat.zero_le _,rfl,fun h=>absurd h (Nat.lt_irrefl _)⟩
 · repeat' first | exact trivial | refine⟨rfl,?_⟩
 · repeat' exact trivial
 rintro⟨k,hk,hI,hJ⟩
 show W _ _ _ _ _ ⟨[(5,.d (.v (.int .i64 ((k:Nat):Int)))),(0,_)],[],[],0⟩
 iterate 2 refine W.seq ?_
 refine W.region ?_
 iterate 4 refine pE rfl ?_
 refine WO.nil (qs (a9 (l:=ck s) (k:=k) rfl (by simp[Ex.aF,aL]) hk (fun b hx hd hlt=>?_) (fun he hd=>?_)))
 ·
  rw[hd,List.all_cons] at hI
  have hh:=zj hx
  refine W.skip (qs (W.seq (W.block (W.seq ?_))))
  apply aC;(case hb=>rfl)
  ·
   iterate 2 refine pE rfl ?_
   refine pu (c9 aa rfl rfl rfl rfl (Int.natCast_nonneg _) (dO (by assumption))) rfl ?_
   iterate 2 refine pE rfl ?_
   apply aw;(case hj=>rfl);(case hl=>rfl)
   ·
    refine ab rfl rfl (pE rfl (ab rfl rfl (pE rfl (ab rfl rfl (pu (c9 aa rfl rfl rfl rfl (Int.natCast_nonneg _) (dO (by assumption))) rfl ?_)))))
    refine ab rfl rfl ?_
    iterate 3 refine pE rfl ?_
    refine WO.nil (ay rfl rfl rfl)
   iterate 4 refine ar rfl rfl rfl rfl ?_
   iterate 2 refine pE rfl ?_
   refine WO.nil (ay rfl rfl rfl)
  refine qs (W.seq ?_)
  apply aC;(case hb=>rfl)
  ·
   iterate 2 refine pE rfl ?_
   refine pu (c9 aa rfl rfl rfl rfl (Int.natCast_nonneg _) (dO (by assumption))) rfl ?_
   iterate 2 refine pE rfl ?_
   apply aw;(case hj=>rfl);(case hl=>rfl)
   ·
    refine ab rfl rfl (pE rfl (ab rfl rfl (pE rfl (ab rfl rfl (pu (c9 aa rfl rfl rfl rfl (Int.natCast_nonneg _) (dO (by assumption))) rfl ?_)))))
    refine ab rfl rfl ?_
    iterate 3 refine pE rfl ?_
    apply aw;(case hj=>rfl);(case hl=>rfl)
    ·
     iterate 4 refine ar rfl rfl rfl rfl ?_
     iterate 2 refine pE rfl ?_
     refine WO.nil (ay rfl rfl rfl)
    refine ab rfl rfl (pE rfl (ab rfl rfl (pE rfl (ab rfl rfl (pu (c9 aa rfl rfl rfl rfl (Int.natCast_nonneg _) (dO (by assumption))) rfl ?_)))))
    refine ab rfl rfl ?_
    iterate 3 refine pE rfl ?_
    refine WO.nil (ay rfl rfl rfl)
   iterate 4 refine ar rfl rfl rfl rfl ?_
   iterate 2 refine pE rfl ?_
   refine ab rfl rfl (pE rfl (ab rfl rfl (pE rfl (ab rfl rfl (pu (c9 aa rfl rfl rfl rfl (Int.natCast_nonneg _) (dO (by assumption))) rfl ?_)))))
   refine ab rfl rfl ?_
   iterate 3 refine pE rfl ?_
   refine WO.nil (ay rfl rfl rfl)
  refine qs (W.seq ?_)
  apply aC;(case hb=>rfl)
  ·
   iterate 3 refine pE rfl ?_
   apply aw;(case hj=>rfl);(case hl=>rfl)
   ·
    refine ab rfl rfl (pE rfl (ab rfl rfl (pE rfl (ab rfl rfl (pE rfl ?_)))))
    apply aw;(case hj=>rfl);(case hl=>rfl)
    ·
     iterate 2 refine ar rfl rfl rfl rfl ?_
     refine ab rfl rfl ?_
     iterate 2 refine pE rfl ?_
     refine WO.nil (ay rfl rfl rfl)
    refine ab rfl rfl (pE rfl (ab rfl rfl (pE rfl (ab rfl rfl ?_))))
    iterate 2 refine pE rfl ?_
    refine WO.nil (ay rfl rfl rfl)
   iterate 3 refine ar rfl rfl rfl rfl ?_
   iterate 2 refine b8 rfl rfl rfl ?_
   refine ar rfl rfl rfl rfl (pE rfl (WO.nil (ay rfl rfl rfl)))
  refine qs (ao rfl (fun h62=>?_) (fun h62=>?_))
  ·
   refine W.seq (W.region (pE rfl (WO.nil (qs (W.ret (au (ah (aZ (au (ah (QF.aq trivial rfl ?_)))))))))))
   have key:gT b=false∨(k=0∧lower b=false):=by clear hh hlt hd hx hJ hI hk hw hlen hlen2 hok;simp only[gT,lower];grind
   simp only[norm,az,cC,←hI]
   rcases key with h | ⟨h,h'⟩
   · simp[h]
   rw[hh h,h'];simp
  refine W.skip (aX (qs (W.region ?_)))
  iterate 3 refine pE rfl ?_
  refine WO.nil (W.aU [] ⟨k+1,?_⟩ ?_ rfl ?_ ⟨rfl,rfl,trivial⟩ ?_ trivial rfl)
  ·
   have key:gT b=true∧(k=0→lower b=true):=by clear hh hlt hd hx hJ hI hk hw hlen hlen2 hok;simp only[gT,lower];grind
   refine⟨hlt,?_,fun _=>?_⟩
   · rw[←hI,key.1];rfl
   rcases Nat.eq_zero_or_pos k with h | h
   · rw[hh h];exact key.2 h
   exact hJ h
  · dsimp only;omega
  · repeat' first | exact trivial | refine⟨aD (by assumption) (by assumption),?_⟩
  repeat' exact trivial
 rw[hd] at hI
 refine W.exit (aN (aQ (aO (qs (W.seq ?_)))))
 apply aC;(case hb=>rfl)
 ·
  iterate 4 refine pE rfl ?_
  apply aw;(case hj=>rfl);(case hl=>rfl)
  ·
   refine ab rfl rfl (pE rfl (ab rfl rfl (pE rfl (ab rfl rfl ?_))))
   iterate 3 refine pE rfl ?_
   refine WO.nil (ay rfl rfl rfl)
  iterate 3 refine ar rfl rfl rfl rfl ?_
  iterate 2 refine pE rfl ?_
  refine WO.nil (ay rfl rfl rfl)
 refine qs (W.ret (QF.aq trivial rfl ?_))
 simp only[norm,az,cC,←hI]
 rw[uq hw]
 have e:s=B #[]↔s.size=0:=by rw[iN,←aL];exact List.length_eq_zero_iff.symm
 have e2:¬ s.size=0→lower ((ck s).headD 0)=true:=fun h=>hJ (by have:=aL s;omega)
 clear hI hJ hw hlen hlen2 hok hd
 simp only[List.all_nil,B,e]
 rcases Nat.eq_zero_or_pos s.size with h | h
 · simp[h]
 have h':=e2 (by omega)
 rw[h']
 refine congrArg (fun z=>A.d (.v (.bool z))) ?_
 rw[Bool.eq_iff_iff]
 generalize s.size=m at h
 simp
 omega
theorem uk (v:aH):ax Tryz.prog 152 [.ag v.c] (.d (.v (.int .i64 (gg v)))) 0:=by
 refine ax.aT (n:=34) (ts:=[2]) Tryz.func152 (by kernel_rfl) rfl Tryz.ntmps152 Tryz.results152 rfl rfl fun C hC hG=>?_
 refine W.seq (W.region (br rfl rfl rfl (pE rfl (WO.nil (qs ?_)))))
 iterate 2 refine W.seq ?_
 refine W.region (pE rfl (pE rfl (pE rfl (pu (ak rfl rfl rfl (sZ ..) rfl) rfl ?_))))
 refine pE rfl (WO.nil (qs (W.seq (W.region ?_))))
 iterate 2 refine pE rfl ?_
 refine WO.nil (qs (ao rfl (fun h11=>?_) (fun h11=>?_)))
 ·
  refine W.seq (W.region ?_)
  iterate 2 refine pE rfl ?_
  refine WO.nil (qs (W.ret (ah (QF.aq trivial rfl ?_))))
  simp only[norm,az];grind[gg]
 refine W.skip (qs ?_)
 iterate 2 refine W.seq ?_
 refine W.region (pE rfl (pE rfl ?_))
 iterate 2 refine pE rfl ?_
 refine WO.nil (qs (W.block (W.kS (t:=14) rfl (fun hok=>?_))))
 have hlen:=iU hok
 refine W.aS (ι:={x:Nat // match x with | k=>k≤(ck v.s).length∧((ck v.s).drop k).any iw=(ck v.s).any iw})
  (fun x=>match x.1 with | k=>[(1,.ptr 0 0),(16,.d (.v (.int .i64 ((k:Nat):Int))))]) [(15,_)]
  (fun x=>match x.1 with | k=>[]) [(0,_)] [] 1 (fun x=>match x.1 with | k=>(ck v.s).length - k)
  [0] ⟨0,?_⟩ rfl ?_ ⟨rfl,rfl,trivial⟩ ?_ ⟨rfl,rfl,trivial⟩ rfl ?_
 · exact⟨Nat.zero_le _,rfl⟩
 · repeat' first | exact trivial | refine⟨rfl,?_⟩
 · repeat' exact trivial
 rintro⟨k,hk,hI⟩
 show W _ _ _ _ _ ⟨[(1,.ptr 0 0),(16,.d (.v (.int .i64 ((k:Nat):Int)))),(15,_)],[(0,_)],[],1⟩
 refine W.seq (W.region (pE rfl (WO.nil (qs (W.seq (a9 (l:=ck v.s) (k:=k) rfl (by simp[Ex.aF,aL]) hk (fun b hx hd hlt=>?_) (fun he hd=>?_)))))))
 ·
  rw[hd,List.any_cons] at hI
  refine W.skip (qs (W.seq (W.block (W.seq (W.region ?_)))))
  iterate 2 refine pE rfl ?_
  refine WO.nil (qs (W.seq (W.region (pE rfl (pE rfl (pE rfl (pu (c9 aa rfl rfl rfl rfl (Int.natCast_nonneg _) (dO (by assumption))) rfl ?_)))))))
  refine pE rfl (WO.nil (qs (W.seq ?_)))
  apply aC;(case hb=>rfl)
  ·
   iterate 3 refine pE rfl ?_
   apply aw;(case hj=>rfl);(case hl=>rfl)
   ·
    iterate 2 refine ar rfl rfl rfl rfl ?_
    iterate 2 refine pE rfl ?_
    iterate 2 refine ar rfl rfl rfl rfl ?_
    refine pE rfl (WO.nil (ay rfl rfl rfl))
   refine ab rfl rfl (pE rfl (ab rfl rfl ?_))
   iterate 3 refine pE rfl ?_
   apply aw;(case hj=>rfl);(case hl=>rfl)
   ·
    iterate 2 refine ar rfl rfl rfl rfl ?_
    refine pE rfl (WO.nil (ay rfl rfl rfl))
   refine ab rfl rfl (pE rfl (ab rfl rfl ?_))
   iterate 2 refine pE rfl ?_
   refine WO.nil (ay rfl rfl rfl)
  refine qs (ao rfl (fun h32=>?_) (fun h32=>?_))
  ·
   refine W.seq (W.region (pE rfl (WO.nil (qs (W.ret (au (ah (aZ (au (ah (QF.aq trivial rfl ?_)))))))))))
   simp only[norm,az,gg,←hI];clear hI;simp only[iw];grind
  refine W.skip (aX (qs (W.region ?_)))
  iterate 2 refine pE rfl ?_
  refine WO.nil (W.aU [0] ⟨k+1,?_⟩ ?_ rfl ?_ ⟨rfl,rfl,trivial⟩ ?_ ⟨rfl,rfl,trivial⟩ rfl)
  · exact⟨hlt,by rw[←hI];simp only[iw];grind⟩
  · dsimp only;omega
  · repeat' first | exact trivial | refine⟨rfl,?_⟩ | refine⟨aD (by assumption) (by assumption),?_⟩
  repeat' exact trivial
 rw[hd] at hI
 refine W.exit (aN (aQ (aO (qs (W.seq (W.region (pE rfl (WO.nil (qs (W.ret (QF.aq trivial rfl ?_)))))))))))
 simp only[norm,az,gg,←hI];simp_all
theorem ta (v:aH):ax Tryz.prog 155 [.ag v.c] (.d (.v (.int .i64 (gg v)))) 0:=by
 refine ax.aT (n:=38) (ts:=[2]) Tryz.func155 (by kernel_rfl) rfl Tryz.ntmps155 Tryz.results155 rfl rfl fun C hC hG=>?_
 refine W.seq (W.region (br rfl rfl rfl (pE rfl (WO.nil (qs (W.seq (W.region (pE rfl (pE rfl (pE rfl (pu (ak rfl rfl rfl (si ..) rfl) rfl ?_)))))))))))
 refine pE rfl (WO.nil (qs ?_))
 iterate 2 refine W.seq ?_
 refine W.region ?_
 iterate 2 refine pE rfl ?_
 refine WO.nil (qs (ao rfl (fun h10=>?_) (fun h10=>?_)))
 ·
  refine W.seq (W.region ?_)
  iterate 2 refine pE rfl ?_
  refine WO.nil (qs (W.ret (ah (QF.aq trivial rfl ?_))))
  simp only[norm,az];grind[gg]
 refine W.skip (qs ?_)
 iterate 2 refine W.seq ?_
 refine W.region (pE rfl (WO.nil (qs (W.block (AO (g:=0) (j:=2) rfl rfl (fun hok=>?_))))))
 have hlen:=iU hok
 refine W.aS (ι:={x:Nat // match x with | k=>k≤(ck v.s).length∧((ck v.s).drop k).any iw=(ck v.s).any iw})
  (fun x=>match x.1 with | k=>[(1,.ptr 0 0),(4,.d (.v (.int .i64 ((k:Nat):Int))))]) []
  (fun x=>match x.1 with | k=>[]) [(0,_)] [] 1 (fun x=>match x.1 with | k=>(ck v.s).length - k)
  [0] ⟨0,?_⟩ rfl ?_ trivial ?_ ⟨rfl,rfl,trivial⟩ rfl ?_
 · exact⟨Nat.zero_le _,rfl⟩
 · repeat' first | exact trivial | refine⟨rfl,?_⟩
 · repeat' exact trivial
 rintro⟨k,hk,hI⟩
 show W _ _ _ _ _ ⟨[(1,.ptr 0 0),(4,.d (.v (.int .i64 ((k:Nat):Int))))],[(0,_)],[],1⟩
 iterate 2 refine W.seq ?_
 refine W.region ?_
 iterate 2 refine pE rfl ?_
 refine pE rfl ?_
 iterate 2 refine pE rfl ?_
 refine WO.nil (qs (a9 (l:=ck v.s) (k:=k) rfl (by simp[Ex.aF,aL]) hk (fun b hx hd hlt=>?_) (fun he hd=>?_)))
 ·
  rw[hd,List.any_cons] at hI
  refine W.skip (qs (W.seq (W.block (W.seq ?_))))
  apply aC;(case hb=>rfl)
  ·
   refine pE rfl (pE rfl (pE rfl (pu (c9 aa rfl rfl rfl rfl (Int.natCast_nonneg _) (dO (by assumption))) rfl ?_)))
   iterate 2 refine pE rfl ?_
   apply aw;(case hj=>rfl);(case hl=>rfl)
   ·
    iterate 5 refine ar rfl rfl rfl rfl ?_
    iterate 2 refine pE rfl ?_
    iterate 5 refine ar rfl rfl rfl rfl ?_
    refine pE rfl (WO.nil (ay rfl rfl rfl))
   refine ab rfl rfl (pE rfl (ab rfl rfl (pE rfl (ab rfl rfl (pE rfl (ab rfl rfl (pu (c9 aa rfl rfl rfl rfl (Int.natCast_nonneg _) (dO (by assumption))) rfl ?_)))))))
   refine ab rfl rfl ?_
   iterate 3 refine pE rfl ?_
   apply aw;(case hj=>rfl);(case hl=>rfl)
   ·
    iterate 5 refine ar rfl rfl rfl rfl ?_
    refine pE rfl (WO.nil (ay rfl rfl rfl))
   refine ab rfl rfl (pE rfl (ab rfl rfl (pE rfl (ab rfl rfl (pE rfl (ab rfl rfl (pu (c9 aa rfl rfl rfl rfl (Int.natCast_nonneg _) (dO (by assumption))) rfl ?_)))))))
   refine ab rfl rfl ?_
   iterate 2 refine pE rfl ?_
   refine WO.nil (ay rfl rfl rfl)
  refine qs (ao rfl (fun h37=>?_) (fun h37=>?_))
  ·
   refine W.seq (W.region (pE rfl (WO.nil (qs (W.ret (au (ah (aZ (au (ah (QF.aq trivial rfl ?_)))))))))))
   simp only[norm,az,gg,←hI];clear hI;simp only[iw];grind
  refine W.skip (aX (qs (W.region ?_)))
  iterate 3 refine pE rfl ?_
  refine WO.nil (W.aU [0] ⟨k+1,?_⟩ ?_ rfl ?_ trivial ?_ ⟨rfl,rfl,trivial⟩ rfl)
  · exact⟨hlt,by rw[←hI];simp only[iw];grind⟩
  · dsimp only;omega
  · repeat' first | exact trivial | refine⟨rfl,?_⟩ | refine⟨aD (by assumption) (by assumption),?_⟩
  repeat' exact trivial
 rw[hd] at hI
 refine W.exit (aN (aQ (aO (qs (W.seq (W.region (pE rfl (WO.nil (qs (W.ret (QF.aq trivial rfl ?_)))))))))))
 simp only[norm,az,gg,←hI];simp_all
end Go.Proofs.YtjenenllmjlimaaGreat
namespace Go.Proofs.YtjenenllmjlimaaGreat
open Go.Ab Go.Tb
set_option maxRecDepth 10000
attribute [local irreducible] W WO Pu QS QB QL QF QV b7 CH QE
theorem vY:∀ (e:Ex) (n:Int),0≤n→n≤200→ax Tryz.prog 131 [.ag e.c,.d (.v (.int .i64 n))] (.tup [.d (.v (.int .i64 (iz e n).1)),.d (.v (.int .i64 (iz e n).2))]) 0:=by
 refine Ex.ind fun e ih=>?_
 intro n h0 h1
 refine ax.aT (n:=34) (ts:=[4,5]) Tryz.func131 (by kernel_rfl) rfl Tryz.ntmps131 Tryz.results131 rfl rfl fun C hC hG=>?_
 refine W.seq (W.region (br rfl rfl rfl ?_))
 iterate 2 refine pE rfl ?_
 refine WO.nil (qs (W.seq (W.region (pE rfl (pu (bH (ev aa rfl) (wrap64 (by omega))) rfl ?_)))))
 refine pE rfl (WO.nil (qs (W.seq (W.region (pE rfl (WO.nil (qs ?_)))))))
 iterate 2 refine W.seq ?_
 refine W.region (pE rfl (pE rfl ?_))
 iterate 2 refine pE rfl ?_
 refine WO.nil (qs (W.block (W.len (t:=13) rfl rfl (fun hlen=>?_))))
 try simp only[List.length_map,Ex.aF] at hlen
 refine W.aS (ι:={x:Nat×Int×Int // match x with | (k,n',d)=>k≤e.kids.length∧gH (e.kids.drop k) n' d=gH e.kids (n+1) 0∧0≤n'∧n'≤201∧0≤d∧d≤n'})
  (fun x=>match x.1 with | (k,n',d)=>[(1,.d (.v (.int .i64 (n')))),(6,.d (.v (.int .i64 (d)))),(15,.d (.v (.int .i64 ((k:Nat):Int))))]) [(13,_),(14,_)]
  (fun x=>match x.1 with | (k,n',d)=>[]) [] [] 0 (fun x=>match x.1 with | (k,n',d)=>e.kids.length - k)
  [] ⟨(0,n+1,0),?_⟩ rfl ?_ ⟨rfl,rfl,rfl,rfl,trivial⟩ ?_ trivial rfl ?_
 · exact⟨Nat.zero_le _,rfl,by omega,by omega,by omega,by omega⟩
 · repeat' first | exact trivial | refine⟨rfl,?_⟩
 · repeat' exact trivial
 rintro⟨⟨k,n',d⟩,hk,hI,h2,h3,h4,h5⟩
 show W _ _ _ _ _ ⟨[(1,.d (.v (.int .i64 (n')))),(6,.d (.v (.int .i64 (d)))),(15,.d (.v (.int .i64 ((k:Nat):Int)))),(13,_),(14,_)],[],[],0⟩
 refine W.seq (W.region (pE rfl (WO.nil (qs (W.seq (a9 (l:=e.kids) (k:=k) rfl (by simp[Ex.aF,aL]) hk (fun x hx hd hlt=>?_) (fun he hd=>?_)))))))
 ·
  rw[hd] at hI
  refine W.skip (qs (W.seq (W.block (W.seq (W.region (pu (indexAddr aa rfl rfl rfl rfl rfl rfl (Int.natCast_nonneg _) (Ex.ld hx) rfl) rfl ?_))))))
  refine pE rfl (a8 aa rfl rfl rfl (aR aa rfl rfl rfl rfl rfl rfl rfl rfl (WO.nil (qs ?_))))
  iterate 2 refine W.seq ?_
  refine W.region ?_
  iterate 2 refine pE rfl ?_
  refine WO.nil (qs (ao rfl (fun h20=>?_) (fun h20=>?_)))
  ·
   have h20:200 < n':=by simpa using h20
   simp only[gH,h20,if_true] at hI
   refine W.exit (aN (y4 rfl ?_))
   refine aN (aQ (aO (qs (W.seq (W.region ?_)))))
   iterate 2 refine pE rfl ?_
   refine pu (bH (ev aa rfl) (wrap64 (by omega))) rfl ?_
   iterate 2 refine pE rfl ?_
   refine WO.nil (qs (W.ret (QF.aq trivial rfl ?_)))
   rw[wC,←hI];rfl
  have h20:¬ 200 < n':=by simpa using h20
  simp only[gH,h20,if_false] at hI
  have hm:=pQ x n' h2 (by omega)
  refine W.skip (qs (W.seq (W.region (pE rfl (WO.nil (qs (W.seq (W.region (pE rfl (pE rfl (pu (ak rfl rfl rfl (ih x (List.mem_of_getElem? hx) _ h2 (by omega)) rfl) rfl ?_)))))))))))
  iterate 5 refine pE rfl ?_
  refine WO.nil (qs (W.region ?_))
  iterate 4 refine pE rfl ?_
  refine WO.nil (aX (qs (W.region ?_)))
  iterate 2 refine pE rfl ?_
  refine WO.nil (W.aU [] ⟨(k+1,(iz x n').1,if d < (iz x n').2 then (iz x n').2 else d),?_⟩ ?_ rfl ?_ ⟨rfl,rfl,rfl,rfl,trivial⟩ ?_ trivial rfl)
  · refine⟨hlt,hI,by omega,by omega,?_,?_⟩ <;> split <;> omega
  · dsimp only;omega
  · repeat' first | exact trivial | refine⟨rfl,?_⟩ | refine⟨aD (by assumption) (by assumption),?_⟩
  repeat' exact trivial
 rw[hd] at hI
 refine W.exit (aN (aQ (aO (qs (W.seq (W.region ?_))))))
 iterate 2 refine pE rfl ?_
 refine pu (bH (ev aa rfl) (wrap64 (by omega))) rfl ?_
 iterate 2 refine pE rfl ?_
 refine WO.nil (qs (W.ret (QF.aq trivial rfl ?_)))
 rw[wC,←hI];rfl
theorem yd:∀ (e:Ex) (m:Int),0≤m→m≤200→ax Tryz.prog 139 [.ag e.c,.d (.v (.int .i64 m))] (.d (.v (.int .i64 (count e m)))) 0:=by
 refine Ex.ind fun e ih=>?_
 intro m h0 h1
 refine ax.aT (n:=31) (ts:=[4]) Tryz.func139 (by kernel_rfl) rfl Tryz.ntmps139 Tryz.results139 rfl rfl fun C hC hG=>?_
 refine W.seq (W.region (br rfl rfl rfl (pE rfl (WO.nil (qs (W.seq (W.region (pE rfl (WO.nil (qs ?_))))))))))
 iterate 2 refine W.seq ?_
 refine W.region (pE rfl (WO.nil (qs (W.block (gy (g:=0) (j:=5) rfl rfl (fun hlen=>?_))))))
 rw[Ex.aF] at hlen
 refine W.aS (ι:={x:Nat×Int // match x with | (k,n')=>k≤e.kids.length∧fE (e.kids.drop k) m n'=fE e.kids m 1∧0≤n'∧n'≤m+1})
  (fun x=>match x.1 with | (k,n')=>[(2,.ptr 0 0),(5,.d (.v (.int .i64 (n')))),(6,.d (.v (.int .i64 ((k:Nat):Int))))]) [(1,_)]
  (fun x=>match x.1 with | (k,n')=>[]) [(0,_)] [] 1 (fun x=>match x.1 with | (k,n')=>e.kids.length - k)
  [0] ⟨(0,1),?_⟩ rfl ?_ ⟨rfl,rfl,trivial⟩ ?_ ⟨rfl,rfl,trivial⟩ rfl ?_
 · exact⟨Nat.zero_le _,rfl,by omega,by omega⟩
 · repeat' first | exact trivial | refine⟨rfl,?_⟩
 · repeat' exact trivial
 rintro⟨⟨k,n'⟩,hk,hI,h2,h3⟩
 show W _ _ _ _ _ ⟨[(2,.ptr 0 0),(5,.d (.v (.int .i64 (n')))),(6,.d (.v (.int .i64 ((k:Nat):Int)))),(1,_)],[(0,_)],[],1⟩
 iterate 2 refine W.seq ?_
 apply aC;(case hb=>rfl)
 ·
  iterate 2 refine pE rfl ?_
  refine pE rfl ?_
  iterate 3 refine pE rfl ?_
  apply aw;(case hj=>rfl);(case hl=>rfl)
  ·
   refine ab rfl rfl (pE rfl (ab rfl rfl (pE rfl (ab rfl rfl ?_))))
   iterate 2 refine pE rfl ?_
   refine WO.nil (ay rfl rfl rfl)
  iterate 3 refine ar rfl rfl rfl rfl ?_
  refine pE rfl (WO.nil (ay rfl rfl rfl))
 refine qs (ao rfl (fun h16=>?_) (fun h16=>?_))
 ·
  have h16:k < e.kids.length∧n'≤m:=by simpa [Ex.aF] using h16
  have hlt:=h16.1
  obtain⟨x,hx,hd⟩:=nA hlt
  rw[hd] at hI
  simp only[fE,h16.2,if_true] at hI
  have hm:=mU x (m - n') (by omega)
  refine W.skip (qs (W.seq (W.block (W.region ?_))))
  iterate 2 refine pE rfl ?_
  refine pE rfl (pE rfl (pu (indexAddr aa rfl rfl rfl rfl rfl rfl (Int.natCast_nonneg _) (Ex.ld hx) rfl) rfl ?_))
  refine pE rfl ?_
  iterate 2 refine pE rfl ?_
  refine pu (bH (ev aa rfl) (wrap64 (by omega))) rfl ?_
  refine pu (ak rfl rfl rfl (ih x (List.mem_of_getElem? hx) _ (by omega) (by omega)) rfl) rfl ?_
  refine pu (bH (ev aa rfl) (wrap64 (by omega))) rfl ?_
  refine pE rfl (WO.nil (aX (qs (W.region ?_))))
  iterate 3 refine pE rfl ?_
  refine WO.nil (W.aU [0] ⟨(k+1,n'+count x (m - n')),?_⟩ ?_ rfl ?_ ⟨rfl,rfl,trivial⟩ ?_ ⟨rfl,rfl,trivial⟩ rfl)
  · exact⟨hlt,hI,by omega,by omega⟩
  · dsimp only;omega
  · repeat' first | exact trivial | refine⟨rfl,?_⟩ | refine⟨aD (by assumption) (by assumption),?_⟩
  repeat' exact trivial
 have h16:k < e.kids.length→m < n':=by simpa [Ex.aF] using h16
 have hfin:n'=fE e.kids m 1:=by
  rw[←hI]
  rcases Nat.lt_or_ge k e.kids.length with h | h
  ·
   obtain⟨x,hx,hd⟩:=nA h
   rw[hd];simp only[fE,if_neg (show ¬ n'≤m by have:=h16 h;omega)]
  rw[dropEnd h];rfl
 refine W.exit (aN (aQ (aO (qs (W.seq (W.region ?_))))))
 iterate 2 refine pE rfl ?_
 refine WO.nil (qs (W.ret (QF.aq trivial rfl ?_)))
 rw[count_eq,←hfin];rfl
theorem xq:∀ (e:Ex),jg e≤200→ax Tryz.prog 140 [.ag e.c] (.d (.v (.int .i64 (kV e)))) 0:=by
 refine Ex.ind fun e ih=>?_
 intro h0
 have hc:=AI e
 refine ax.aT (n:=22) (ts:=[2]) Tryz.func140 (by kernel_rfl) rfl Tryz.ntmps140 Tryz.results140 rfl rfl fun C hC hG=>?_
 refine W.seq (W.region (br rfl rfl rfl (pE rfl (WO.nil (qs (W.seq (W.region (pE rfl (WO.nil (qs ?_))))))))))
 iterate 2 refine W.seq ?_
 refine W.region (pE rfl (WO.nil (qs (W.block (gy (g:=0) (j:=5) rfl rfl (fun hlen=>?_))))))
 rw[Ex.aF] at hlen
 refine W.aS (ι:={x:Nat×Int // match x with | (k,d)=>k≤e.kids.length∧jE (e.kids.drop k) d=jE e.kids 0∧0≤d∧e6 (e.kids.drop k)≤e6 e.kids∧d≤200})
  (fun x=>match x.1 with | (k,d)=>[(1,.ptr 0 0),(3,.d (.v (.int .i64 (d)))),(4,.d (.v (.int .i64 ((k:Nat):Int))))]) []
  (fun x=>match x.1 with | (k,d)=>[]) [(0,_)] [] 1 (fun x=>match x.1 with | (k,d)=>e.kids.length - k)
  [0] ⟨(0,0),?_⟩ rfl ?_ trivial ?_ ⟨rfl,rfl,trivial⟩ rfl ?_
 · exact⟨Nat.zero_le _,rfl,by omega,by simp,by omega⟩
 · repeat' first | exact trivial | refine⟨rfl,?_⟩
 · repeat' exact trivial
 rintro⟨⟨k,d⟩,hk,hI,h2,h3,h4⟩
 show W _ _ _ _ _ ⟨[(1,.ptr 0 0),(3,.d (.v (.int .i64 (d)))),(4,.d (.v (.int .i64 ((k:Nat):Int))))],[(0,_)],[],1⟩
 iterate 2 refine W.seq ?_
 refine W.region ?_
 iterate 2 refine pE rfl ?_
 refine pE rfl ?_
 iterate 2 refine pE rfl ?_
 refine WO.nil (qs (a9 (l:=e.kids) (k:=k) rfl (by simp[Ex.aF,aL]) hk (fun x hx hd hlt=>?_) (fun he hd=>?_)))
 ·
  rw[hd] at hI h3
  simp only[jE,e6] at hI h3
  have hx1:=w9 x
  have hx2:=jY (e.kids.drop (k+1))
  have hx3:=oT x
  refine W.skip (qs (W.seq (W.block (W.region ?_))))
  iterate 2 refine pE rfl ?_
  refine pE rfl (pE rfl (pu (indexAddr aa rfl rfl rfl rfl rfl rfl (Int.natCast_nonneg _) (Ex.ld hx) rfl) rfl ?_))
  refine pE rfl (pu (ak rfl rfl rfl (ih x (List.mem_of_getElem? hx) (by omega)) rfl) rfl ?_)
  iterate 2 refine pE rfl ?_
  refine WO.nil (aX (qs (W.region ?_)))
  iterate 3 refine pE rfl ?_
  refine WO.nil (W.aU [0] ⟨(k+1,if d < kV x then kV x else d),?_⟩ ?_ rfl ?_ trivial ?_ ⟨rfl,rfl,trivial⟩ rfl)
  · refine⟨hlt,hI,?_,by omega,?_⟩ <;> split <;> omega
  · dsimp only;omega
  · repeat' first | exact trivial | refine⟨rfl,?_⟩ | refine⟨aD (by assumption) (by assumption),?_⟩
  repeat' exact trivial
 rw[hd] at hI
 simp only[jE] at hI
 refine W.exit (aN (aQ (aO (qs (W.seq (W.region (pE rfl (pu (bH (ev aa rfl) (wrap64 (by omega))) rfl ?_))))))))
 refine pE rfl (WO.nil (qs (W.ret (QF.aq trivial rfl ?_))))
 rw[zV,←hI];rfl
end Go.Proofs.YtjenenllmjlimaaGreat
namespace Go.Proofs.YtjenenllmjlimaaGreat
open Go.Ab Go.Tb
set_option maxRecDepth 10000
attribute [local irreducible] W WO Pu QS QB QL QF QV b7 CH QE
theorem xd (e:Ex):ax Tryz.prog 156 [.ag e.c] (.d (.v (.int .i64 (if cC e.name=false then 3 else if arity e.name=0 then 5 else if (e.kids.length:Int)≠arity e.name then 1 else 0)))) 0:=by
 refine ax.aT (n:=41) (ts:=[2]) Tryz.func156 (by kernel_rfl) rfl Tryz.ntmps156 Tryz.results156 rfl rfl fun C hC hG=>?_
 have hkl:=Ex.aF e
 refine W.seq (W.region (br rfl rfl rfl (pE rfl (WO.nil (qs ?_)))))
 iterate 2 refine W.seq ?_
 refine W.region (pE rfl (pE rfl (pu (ak rfl rfl rfl (ll ..) rfl) rfl ?_)))
 refine pE rfl (WO.nil (qs (ao rfl (fun h7=>?_) (fun h7=>?_))))
 ·
  refine W.seq (W.region (pE rfl (WO.nil (qs (W.ret (ah (QF.aq trivial rfl ?_)))))))
  simp only[norm,az,arity,dT,dS,dR,bX,de,dg] at *;grind
 refine W.skip (qs (W.seq (W.region (pE rfl (WO.nil (qs ?_))))))
 iterate 2 refine W.seq ?_
 apply aC;(case hb=>rfl)
 ·
  refine pE rfl (pE rfl ?_)
  iterate 2 refine pE rfl ?_
  apply aw;(case hj=>rfl);(case hl=>rfl)
  ·
   iterate 3 refine ar rfl rfl rfl rfl ?_
   iterate 2 refine pE rfl ?_
   iterate 3 refine ar rfl rfl rfl rfl ?_
   iterate 2 refine pE rfl ?_
   iterate 3 refine ar rfl rfl rfl rfl ?_
   refine pE rfl (WO.nil (ay rfl rfl rfl))
  refine ab rfl rfl (pE rfl (ab rfl rfl (pE rfl (ab rfl rfl ?_))))
  iterate 3 refine pE rfl ?_
  apply aw;(case hj=>rfl);(case hl=>rfl)
  ·
   iterate 3 refine ar rfl rfl rfl rfl ?_
   iterate 2 refine pE rfl ?_
   iterate 3 refine ar rfl rfl rfl rfl ?_
   refine pE rfl (WO.nil (ay rfl rfl rfl))
  refine ab rfl rfl (pE rfl (ab rfl rfl (pE rfl (ab rfl rfl ?_))))
  iterate 3 refine pE rfl ?_
  apply aw;(case hj=>rfl);(case hl=>rfl)
  ·
   iterate 3 refine ar rfl rfl rfl rfl ?_
   refine pE rfl (WO.nil (ay rfl rfl rfl))
  refine ab rfl rfl (pE rfl (ab rfl rfl (pE rfl (ab rfl rfl ?_))))
  iterate 2 refine pE rfl ?_
  refine WO.nil (ay rfl rfl rfl)
 refine qs (ao rfl (fun h25=>?_) (fun h25=>?_))
 ·
  refine W.region (pE rfl (WO.nil (qs ?_)))
  iterate 2 refine W.seq ?_
  apply aC;(case hb=>rfl)
  ·
   refine pE rfl (pE rfl ?_)
   iterate 2 refine pE rfl ?_
   apply aw;(case hj=>rfl);(case hl=>rfl)
   ·
    iterate 3 refine ar rfl rfl rfl rfl ?_
    refine pE rfl (WO.nil (ay rfl rfl rfl))
   refine ab rfl rfl (pE rfl (ab rfl rfl (pE rfl (ab rfl rfl ?_))))
   iterate 2 refine pE rfl ?_
   refine WO.nil (ay rfl rfl rfl)
  refine qs (ao rfl (fun h33=>?_) (fun h33=>?_))
  ·
   refine W.region (pE rfl (WO.nil (qs ?_)))
   iterate 2 refine W.seq ?_
   refine W.region ?_
   iterate 2 refine pE rfl ?_
   refine WO.nil (qs (ao rfl (fun h35=>?_) (fun h35=>?_)))
   ·
    refine W.seq (W.region (pE rfl (WO.nil (qs (W.ret (ah (QF.aq trivial rfl ?_)))))))
    simp only[norm,az,arity,dT,dS,dR,bX,de,dg] at *;grind
   refine W.skip (qs ?_)
   iterate 2 refine W.seq ?_
   refine W.region (pE rfl (pE rfl ?_))
   iterate 3 refine pE rfl ?_
   refine WO.nil (qs (ao rfl (fun h40=>?_) (fun h40=>?_)))
   ·
    refine W.seq (W.region (pE rfl (WO.nil (qs (W.ret (ah (QF.aq trivial rfl ?_)))))))
    simp only[norm,az,arity,dT,dS,dR,bX,de,dg] at *;grind
   refine W.skip (qs (W.seq (W.region (pE rfl (WO.nil (qs (W.ret (QF.aq trivial rfl ?_))))))))
   simp only[norm,az,arity,dT,dS,dR,bX,de,dg] at *;grind
  refine W.skip (qs ?_)
  iterate 2 refine W.seq ?_
  refine W.region ?_
  iterate 2 refine pE rfl ?_
  refine WO.nil (qs (ao rfl (fun h35=>?_) (fun h35=>?_)))
  ·
   refine W.seq (W.region (pE rfl (WO.nil (qs (W.ret (ah (QF.aq trivial rfl ?_)))))))
   simp only[norm,az,arity,dT,dS,dR,bX,de,dg] at *;grind
  refine W.skip (qs ?_)
  iterate 2 refine W.seq ?_
  refine W.region (pE rfl (pE rfl ?_))
  iterate 3 refine pE rfl ?_
  refine WO.nil (qs (ao rfl (fun h40=>?_) (fun h40=>?_)))
  ·
   refine W.seq (W.region (pE rfl (WO.nil (qs (W.ret (ah (QF.aq trivial rfl ?_)))))))
   simp only[norm,az,arity,dT,dS,dR,bX,de,dg] at *;grind
  refine W.skip (qs (W.seq (W.region (pE rfl (WO.nil (qs (W.ret (QF.aq trivial rfl ?_))))))))
  simp only[norm,az,arity,dT,dS,dR,bX,de,dg] at *;grind
 refine W.skip (qs ?_)
 iterate 2 refine W.seq ?_
 apply aC;(case hb=>rfl)
 ·
  refine pE rfl (pE rfl ?_)
  iterate 2 refine pE rfl ?_
  apply aw;(case hj=>rfl);(case hl=>rfl)
  ·
   iterate 3 refine ar rfl rfl rfl rfl ?_
   refine pE rfl (WO.nil (ay rfl rfl rfl))
  refine ab rfl rfl (pE rfl (ab rfl rfl (pE rfl (ab rfl rfl ?_))))
  iterate 2 refine pE rfl ?_
  refine WO.nil (ay rfl rfl rfl)
 refine qs (ao rfl (fun h33=>?_) (fun h33=>?_))
 ·
  refine W.region (pE rfl (WO.nil (qs ?_)))
  iterate 2 refine W.seq ?_
  refine W.region ?_
  iterate 2 refine pE rfl ?_
  refine WO.nil (qs (ao rfl (fun h35=>?_) (fun h35=>?_)))
  ·
   refine W.seq (W.region (pE rfl (WO.nil (qs (W.ret (ah (QF.aq trivial rfl ?_)))))))
   simp only[norm,az,arity,dT,dS,dR,bX,de,dg] at *;grind
  refine W.skip (qs ?_)
  iterate 2 refine W.seq ?_
  refine W.region (pE rfl (pE rfl ?_))
  iterate 3 refine pE rfl ?_
  refine WO.nil (qs (ao rfl (fun h40=>?_) (fun h40=>?_)))
  ·
   refine W.seq (W.region (pE rfl (WO.nil (qs (W.ret (ah (QF.aq trivial rfl ?_)))))))
   simp only[norm,az,arity,dT,dS,dR,bX,de,dg] at *;grind
  refine W.skip (qs (W.seq (W.region (pE rfl (WO.nil (qs (W.ret (QF.aq trivial rfl ?_))))))))
  simp only[norm,az,arity,dT,dS,dR,bX,de,dg] at *;grind
 refine W.skip (qs ?_)
 iterate 2 refine W.seq ?_
 refine W.region ?_
 iterate 2 refine pE rfl ?_
 refine WO.nil (qs (ao rfl (fun h35=>?_) (fun h35=>?_)))
 ·
  refine W.seq (W.region (pE rfl (WO.nil (qs (W.ret (ah (QF.aq trivial rfl ?_)))))))
  simp only[norm,az,arity,dT,dS,dR,bX,de,dg] at *;grind
 refine W.skip (qs ?_)
 iterate 2 refine W.seq ?_
 refine W.region (pE rfl (pE rfl ?_))
 iterate 3 refine pE rfl ?_
 refine WO.nil (qs (ao rfl (fun h40=>?_) (fun h40=>?_)))
 ·
  refine W.seq (W.region (pE rfl (WO.nil (qs (W.ret (ah (QF.aq trivial rfl ?_)))))))
  simp only[norm,az,arity,dT,dS,dR,bX,de,dg] at *;grind
 refine W.skip (qs (W.seq (W.region (pE rfl (WO.nil (qs (W.ret (QF.aq trivial rfl ?_))))))))
 simp only[norm,az,arity,dT,dS,dR,bX,de,dg] at *;grind
theorem yD (e:Ex):ax Tryz.prog 148 [.ag e.c] (.d (.v (.int .i64 (ba e)))) 0:=by
 refine ax.aT (n:=73) (ts:=[2]) Tryz.func148 (by kernel_rfl) rfl Tryz.ntmps148 Tryz.results148 rfl rfl fun C hC hG=>?_
 have hkl:=Ex.aF e
 refine W.seq (W.region (br rfl rfl rfl (pE rfl (WO.nil (qs ?_)))))
 iterate 2 refine W.seq ?_
 apply aC;(case hb=>rfl)
 ·
  refine pE rfl (pE rfl ?_)
  iterate 2 refine pE rfl ?_
  apply aw;(case hj=>rfl);(case hl=>rfl)
  ·
   iterate 3 refine ar rfl rfl rfl rfl ?_
   refine pE rfl (WO.nil (ay rfl rfl rfl))
  refine ab rfl rfl (pE rfl (ab rfl rfl (pE rfl (ab rfl rfl ?_))))
  iterate 2 refine pE rfl ?_
  refine WO.nil (ay rfl rfl rfl)
 refine qs (ao rfl (fun h11=>?_) (fun h11=>?_))
 ·
  refine W.seq (W.region (pE rfl (WO.nil (qs (W.ret (ah (QF.aq trivial rfl ?_)))))))
  simp only[norm,az,ba,zeroV] at *;generalize bt e.op=q at *;grind
 refine W.skip (qs (W.seq ?_))
 apply aC;(case hb=>rfl)
 ·
  refine pE rfl (pE rfl ?_)
  iterate 2 refine pE rfl ?_
  apply aw;(case hj=>rfl);(case hl=>rfl)
  ·
   iterate 3 refine ar rfl rfl rfl rfl ?_
   iterate 2 refine pE rfl ?_
   refine WO.nil (ay rfl rfl rfl)
  refine ab rfl rfl (pE rfl (ab rfl rfl (pE rfl (ab rfl rfl ?_))))
  iterate 3 refine pE rfl ?_
  refine WO.nil (ay rfl rfl rfl)
 refine qs ?_
 iterate 2 refine W.seq ?_
 apply iV aa;(case hb=>rfl);(case hB=>kernel_rfl)
 ·
  iterate 3 refine an (ev aa rfl) rfl ?_
  apply eX;(case hj=>rfl);(case hl=>rfl)
  ·
   refine aB rfl rfl (ev aa rfl) rfl ?_
   refine aB rfl rfl (ev aa rfl) rfl ?_
   refine aB rfl rfl (ev aa rfl) rfl ?_
   iterate 2 refine an (ev aa rfl) rfl ?_
   apply eX;(case hj=>rfl);(case hl=>rfl)
   ·
    iterate 4 refine bU rfl rfl rfl rfl ?_
    iterate 4 refine pb rfl rfl rfl ?_
    refine bU rfl rfl rfl rfl ?_
    iterate 2 refine an (ev aa rfl) rfl ?_
    iterate 5 refine bU rfl rfl rfl rfl ?_
    iterate 7 refine pb rfl rfl rfl ?_
    refine bU rfl rfl rfl rfl (an (ev aa rfl) rfl ?_)
    refine CH.nil ?_
    refine ay rfl rfl rfl
   refine aB rfl rfl (ev aa rfl) rfl ?_
   refine aB rfl rfl (ev aa rfl) rfl ?_
   refine aB rfl rfl (ev aa rfl) rfl ?_
   refine aB rfl rfl (ev aa rfl) rfl ?_
   apply eX;(case hj=>rfl);(case hl=>rfl)
   ·
    refine aB rfl rfl (ev aa rfl) rfl ?_
    refine aB rfl rfl (ev aa rfl) rfl ?_
    refine aB rfl rfl (build aa rfl rfl rfl rfl) rfl ?_
    refine aB rfl rfl (ev aa rfl) rfl ?_
    refine aB rfl rfl (ev aa rfl) rfl ?_
    iterate 2 refine an (ev aa rfl) rfl ?_
    apply eX;(case hj=>rfl);(case hl=>rfl)
    ·
     iterate 5 refine bU rfl rfl rfl rfl ?_
     iterate 7 refine pb rfl rfl rfl ?_
     refine bU rfl rfl rfl rfl (an (ev aa rfl) rfl ?_)
     refine CH.nil ?_
     refine ay rfl rfl rfl
    refine aB rfl rfl (ev aa rfl) rfl ?_
    refine aB rfl rfl (ev aa rfl) rfl ?_
    refine aB rfl rfl (ak rfl rfl rfl (ji ..) rfl) rfl ?_
    refine aB rfl rfl (ev aa rfl) rfl ?_
    refine aB rfl rfl (ev aa rfl) rfl ?_
    apply eX;(case hj=>rfl);(case hl=>rfl)
    ·
     refine aB rfl rfl (ev aa rfl) rfl ?_
     refine aB rfl rfl (ev aa rfl) rfl ?_
     refine aB rfl rfl (ev aa rfl) rfl ?_
     refine aB rfl rfl (ev aa rfl) rfl ?_
     refine aB rfl rfl (ev aa rfl) rfl ?_
     refine aB rfl rfl (ak rfl rfl rfl (ji ..) rfl) rfl ?_
     refine aB rfl rfl (ev aa rfl) rfl ?_
     refine aB rfl rfl (ev aa rfl) rfl ?_
     refine an (ev aa rfl) rfl ?_
     refine CH.nil ?_
     refine ay rfl rfl rfl
    iterate 7 refine bU rfl rfl rfl rfl ?_
    refine aB rfl rfl (ev aa rfl) rfl ?_
    refine an (ev aa rfl) rfl ?_
    refine CH.nil ?_
    refine ay rfl rfl rfl
   iterate 4 refine bU rfl rfl rfl rfl ?_
   refine aB rfl rfl (ev aa rfl) rfl ?_
   iterate 2 refine an (ev aa rfl) rfl ?_
   refine aB rfl rfl (ev aa rfl) rfl ?_
   refine aB rfl rfl (ev aa rfl) rfl ?_
   refine aB rfl rfl (ak rfl rfl rfl (ji ..) rfl) rfl ?_
   refine aB rfl rfl (ev aa rfl) rfl ?_
   refine aB rfl rfl (ev aa rfl) rfl ?_
   apply eX;(case hj=>rfl);(case hl=>rfl)
   ·
    refine aB rfl rfl (ev aa rfl) rfl ?_
    refine aB rfl rfl (ev aa rfl) rfl ?_
    refine aB rfl rfl (ev aa rfl) rfl ?_
    refine aB rfl rfl (ev aa rfl) rfl ?_
    refine aB rfl rfl (ev aa rfl) rfl ?_
    refine aB rfl rfl (ak rfl rfl rfl (ji ..) rfl) rfl ?_
    refine aB rfl rfl (ev aa rfl) rfl ?_
    refine aB rfl rfl (ev aa rfl) rfl ?_
    refine an (ev aa rfl) rfl ?_
    refine CH.nil ?_
    refine ay rfl rfl rfl
   iterate 7 refine bU rfl rfl rfl rfl ?_
   refine aB rfl rfl (ev aa rfl) rfl ?_
   refine an (ev aa rfl) rfl ?_
   refine CH.nil ?_
   refine ay rfl rfl rfl
  iterate 3 refine bU rfl rfl rfl rfl ?_
  iterate 2 refine an (ev aa rfl) rfl ?_
  refine aB rfl rfl (ev aa rfl) rfl ?_
  refine aB rfl rfl (ev aa rfl) rfl ?_
  refine aB rfl rfl (ev aa rfl) rfl ?_
  refine aB rfl rfl (ev aa rfl) rfl ?_
  apply eX;(case hj=>rfl);(case hl=>rfl)
  ·
   refine aB rfl rfl (ev aa rfl) rfl ?_
   refine aB rfl rfl (ev aa rfl) rfl ?_
   refine aB rfl rfl (build aa rfl rfl rfl rfl) rfl ?_
   refine aB rfl rfl (ev aa rfl) rfl ?_
   refine aB rfl rfl (ev aa rfl) rfl ?_
   iterate 2 refine an (ev aa rfl) rfl ?_
   apply eX;(case hj=>rfl);(case hl=>rfl)
   ·
    iterate 5 refine bU rfl rfl rfl rfl ?_
    iterate 7 refine pb rfl rfl rfl ?_
    refine bU rfl rfl rfl rfl (an (ev aa rfl) rfl ?_)
    refine CH.nil ?_
    refine ay rfl rfl rfl
   refine aB rfl rfl (ev aa rfl) rfl ?_
   refine aB rfl rfl (ev aa rfl) rfl ?_
   refine aB rfl rfl (ak rfl rfl rfl (ji ..) rfl) rfl ?_
   refine aB rfl rfl (ev aa rfl) rfl ?_
   refine aB rfl rfl (ev aa rfl) rfl ?_
   apply eX;(case hj=>rfl);(case hl=>rfl)
   ·
    refine aB rfl rfl (ev aa rfl) rfl ?_
    refine aB rfl rfl (ev aa rfl) rfl ?_
    refine aB rfl rfl (ev aa rfl) rfl ?_
    refine aB rfl rfl (ev aa rfl) rfl ?_
    refine aB rfl rfl (ev aa rfl) rfl ?_
    refine aB rfl rfl (ak rfl rfl rfl (ji ..) rfl) rfl ?_
    refine aB rfl rfl (ev aa rfl) rfl ?_
    refine aB rfl rfl (ev aa rfl) rfl ?_
    refine an (ev aa rfl) rfl ?_
    refine CH.nil ?_
    refine ay rfl rfl rfl
   iterate 7 refine bU rfl rfl rfl rfl ?_
   refine aB rfl rfl (ev aa rfl) rfl ?_
   refine an (ev aa rfl) rfl ?_
   refine CH.nil ?_
   refine ay rfl rfl rfl
  iterate 4 refine bU rfl rfl rfl rfl ?_
  refine aB rfl rfl (ev aa rfl) rfl ?_
  iterate 2 refine an (ev aa rfl) rfl ?_
  refine aB rfl rfl (ev aa rfl) rfl ?_
  refine aB rfl rfl (ev aa rfl) rfl ?_
  refine aB rfl rfl (ak rfl rfl rfl (ji ..) rfl) rfl ?_
  refine aB rfl rfl (ev aa rfl) rfl ?_
  refine aB rfl rfl (ev aa rfl) rfl ?_
  apply eX;(case hj=>rfl);(case hl=>rfl)
  ·
   refine aB rfl rfl (ev aa rfl) rfl ?_
   refine aB rfl rfl (ev aa rfl) rfl ?_
   refine aB rfl rfl (ev aa rfl) rfl ?_
   refine aB rfl rfl (ev aa rfl) rfl ?_
   refine aB rfl rfl (ev aa rfl) rfl ?_
   refine aB rfl rfl (ak rfl rfl rfl (ji ..) rfl) rfl ?_
   refine aB rfl rfl (ev aa rfl) rfl ?_
   refine aB rfl rfl (ev aa rfl) rfl ?_
   refine an (ev aa rfl) rfl ?_
   refine CH.nil ?_
   refine ay rfl rfl rfl
  iterate 7 refine bU rfl rfl rfl rfl ?_
  refine aB rfl rfl (ev aa rfl) rfl ?_
  refine an (ev aa rfl) rfl ?_
  refine CH.nil ?_
  refine ay rfl rfl rfl
 refine qs (ao rfl (fun h52=>?_) (fun h52=>?_))
 ·
  refine W.seq (W.region (pE rfl (WO.nil (qs (W.ret (ah (QF.aq trivial rfl ?_)))))))
  simp only[norm,az,ba,zeroV] at *;generalize bt e.op=q at *;grind
 refine W.skip (qs ?_)
 iterate 2 refine W.seq ?_
 refine W.region (pE rfl (pE rfl (pE rfl (WO.nil (qs (ao rfl (fun h55=>?_) (fun h55=>?_)))))))
 ·
  refine W.seq (W.region (pE rfl (pE rfl (pu (ak rfl rfl rfl (ta ..) rfl) rfl ?_))))
  refine pE rfl (WO.nil (qs (W.ret (ah (QF.aq trivial rfl ?_)))))
  simp only[norm,az,ba,zeroV] at *;generalize bt e.op=q at *;grind
 refine W.skip (qs ?_)
 iterate 2 refine W.seq ?_
 apply aC;(case hb=>rfl)
 ·
  refine pE rfl (pE rfl ?_)
  iterate 2 refine pE rfl ?_
  apply aw;(case hj=>rfl);(case hl=>rfl)
  ·
   refine ab rfl rfl (pE rfl (ab rfl rfl (pE rfl (ab rfl rfl (pu (ak rfl rfl rfl (ll ..) rfl) rfl ?_)))))
   refine ab rfl rfl ?_
   iterate 2 refine pE rfl ?_
   refine WO.nil (ay rfl rfl rfl)
  iterate 4 refine ar rfl rfl rfl rfl ?_
  refine pE rfl (WO.nil (ay rfl rfl rfl))
 refine qs (ao rfl (fun h67=>?_) (fun h67=>?_))
 ·
  refine W.seq (W.region (pE rfl (WO.nil (qs (W.ret (ah (QF.aq trivial rfl ?_)))))))
  simp only[norm,az,ba,zeroV] at *;generalize bt e.op=q at *;grind
 refine W.skip (qs ?_)
 iterate 2 refine W.seq ?_
 refine W.region (pE rfl (pE rfl (pE rfl (WO.nil (qs (ao rfl (fun h70=>?_) (fun h70=>?_)))))))
 ·
  refine W.seq (W.region (pE rfl (pu (ak rfl rfl rfl (xd ..) rfl) rfl ?_)))
  refine pE rfl (WO.nil (qs (W.ret (ah (QF.aq trivial rfl ?_)))))
  simp only[norm,az,ba,zeroV] at *;generalize bt e.op=q at *;grind
 refine W.skip (qs (W.seq (W.region (pE rfl (WO.nil (qs (W.ret (QF.aq trivial rfl ?_))))))))
 simp only[norm,az,ba,zeroV] at *;generalize bt e.op=q at *;grind
theorem yV (e:Ex):ax Tryz.prog 146 [.ag e.c] (.d (.v (.int .i64 (ba e)))) 0:=by
 refine ax.aT (n:=94) (ts:=[2]) Tryz.func146 (by kernel_rfl) rfl Tryz.ntmps146 Tryz.results146 rfl rfl fun C hC hG=>?_
 have hkl:=Ex.aF e
 refine W.seq (W.region (br rfl rfl rfl (pE rfl (WO.nil (qs (W.seq (W.region ?_)))))))
 iterate 3 refine pE rfl ?_
 refine WO.nil (qs (W.seq (W.block (W.seq (W.region (pE rfl (pE rfl ?_)))))))
 iterate 2 refine pE rfl ?_
 refine WO.nil (qs (ao rfl (fun h6=>?_) (fun h6=>?_)))
 ·
  refine W.region ?_
  iterate 2 refine pE rfl ?_
  refine WO.nil (aX (qs (W.seq (W.block ?_))))
  iterate 2 refine W.seq ?_
  refine W.region (pE rfl (pE rfl ?_))
  iterate 4 refine pE rfl ?_
  refine WO.nil (qs (ao rfl (fun h39=>?_) (fun h39=>?_)))
  ·
   refine W.skip (qs (W.cS rfl (W.seq (W.region (pE rfl (WO.nil (qs (W.ret (au (ah (QF.aq trivial rfl ?_)))))))))))
   simp only[norm,az,ba,bt,zeroV] at *;grind
  refine W.seq ?_
  apply aC;(case hb=>rfl)
  ·
   refine pE rfl (pE rfl ?_)
   iterate 2 refine pE rfl ?_
   apply aw;(case hj=>rfl);(case hl=>rfl)
   ·
    refine ab rfl rfl (pE rfl (ab rfl rfl ?_))
    iterate 3 refine pE rfl ?_
    refine WO.nil (ay rfl rfl rfl)
   iterate 2 refine ar rfl rfl rfl rfl ?_
   iterate 2 refine pE rfl ?_
   refine WO.nil (ay rfl rfl rfl)
  refine qs (ao rfl (fun h39=>?_) (fun h39=>?_))
  ·
   refine W.skip (qs (W.cS rfl (W.seq (W.region (pE rfl (WO.nil (qs (W.ret (au (ah (QF.aq trivial rfl ?_)))))))))))
   simp only[norm,az,ba,bt,zeroV] at *;grind
  apply aC;(case hb=>rfl)
  ·
   refine pE rfl (pE rfl (pu (build aa rfl rfl rfl rfl) rfl ?_))
   iterate 2 refine pE rfl ?_
   apply aw;(case hj=>rfl);(case hl=>rfl)
   ·
    refine ab rfl rfl (pE rfl (ab rfl rfl ?_))
    iterate 3 refine pE rfl ?_
    refine WO.nil (ay rfl rfl rfl)
   iterate 2 refine ar rfl rfl rfl rfl ?_
   iterate 2 refine pE rfl ?_
   refine WO.nil (ay rfl rfl rfl)
  refine qs (ao rfl (fun h39=>?_) (fun h39=>?_))
  ·
   refine W.seq (W.region (pE rfl (WO.nil (qs (W.ret (au (ah (QF.aq trivial rfl ?_))))))))
   simp only[norm,az,ba,bt,zeroV] at *;grind
  refine W.seq (W.region ?_)
  iterate 2 refine pE rfl ?_
  refine WO.nil (qs (W.cS rfl (W.seq (W.region (pE rfl (pE rfl (pu (ak rfl rfl rfl (uk ..) rfl) rfl ?_)))))))
  refine pE rfl (WO.nil (qs (W.ret (au (ah (QF.aq trivial rfl ?_))))))
  simp only[norm,az,ba,bt,zeroV] at *;grind
 refine W.seq (W.region (pE rfl (pE rfl ?_)))
 iterate 2 refine pE rfl ?_
 refine WO.nil (qs (ao rfl (fun h10=>?_) (fun h10=>?_)))
 ·
  refine W.region ?_
  iterate 2 refine pE rfl ?_
  refine WO.nil (aX (qs (W.seq (W.block ?_))))
  iterate 2 refine W.seq ?_
  refine W.region (pE rfl (pE rfl ?_))
  iterate 4 refine pE rfl ?_
  refine WO.nil (qs (ao rfl (fun h39=>?_) (fun h39=>?_)))
  ·
   refine W.skip (qs (W.cS rfl (W.seq (W.region (pE rfl (WO.nil (qs (W.ret (au (ah (QF.aq trivial rfl ?_)))))))))))
   simp only[norm,az,ba,bt,zeroV] at *;grind
  refine W.seq ?_
  apply aC;(case hb=>rfl)
  ·
   refine pE rfl (pE rfl ?_)
   iterate 2 refine pE rfl ?_
   apply aw;(case hj=>rfl);(case hl=>rfl)
   ·
    refine ab rfl rfl (pE rfl (ab rfl rfl ?_))
    iterate 3 refine pE rfl ?_
    refine WO.nil (ay rfl rfl rfl)
   iterate 2 refine ar rfl rfl rfl rfl ?_
   iterate 2 refine pE rfl ?_
   refine WO.nil (ay rfl rfl rfl)
  refine qs (ao rfl (fun h39=>?_) (fun h39=>?_))
  ·
   refine W.skip (qs (W.cS rfl (W.seq (W.region (pE rfl (WO.nil (qs (W.ret (au (ah (QF.aq trivial rfl ?_)))))))))))
   simp only[norm,az,ba,bt,zeroV] at *;grind
  apply aC;(case hb=>rfl)
  ·
   refine pE rfl (pE rfl (pu (build aa rfl rfl rfl rfl) rfl ?_))
   iterate 2 refine pE rfl ?_
   apply aw;(case hj=>rfl);(case hl=>rfl)
   ·
    refine ab rfl rfl (pE rfl (ab rfl rfl ?_))
    iterate 3 refine pE rfl ?_
    refine WO.nil (ay rfl rfl rfl)
   iterate 2 refine ar rfl rfl rfl rfl ?_
   iterate 2 refine pE rfl ?_
   refine WO.nil (ay rfl rfl rfl)
  refine qs (ao rfl (fun h39=>?_) (fun h39=>?_))
  ·
   refine W.seq (W.region (pE rfl (WO.nil (qs (W.ret (au (ah (QF.aq trivial rfl ?_))))))))
   simp only[norm,az,ba,bt,zeroV] at *;grind
  refine W.seq (W.region ?_)
  iterate 2 refine pE rfl ?_
  refine WO.nil (qs (W.sI rfl (W.seq ?_)))
  apply aC;(case hb=>rfl)
  ·
   iterate 2 refine pE rfl ?_
   refine ab rfl rfl (pE rfl (ab rfl rfl (pE rfl (ab rfl rfl (pu (ak rfl rfl rfl (gz ..) rfl) rfl ?_)))))
   refine ab rfl rfl ?_
   iterate 3 refine pE rfl ?_
   refine WO.nil (ay rfl rfl rfl)
  refine qs (ao rfl (fun h65=>?_) (fun h65=>?_))
  ·
   refine W.seq (W.region (pE rfl (WO.nil (qs (W.ret (au (ah (QF.aq trivial rfl ?_))))))))
   simp only[norm,az,ba,bt,zeroV] at *;grind
  refine W.seq ?_
  apply aC;(case hb=>rfl)
  ·
   refine pE rfl (pE rfl ?_)
   iterate 2 refine pE rfl ?_
   apply aw;(case hj=>rfl);(case hl=>rfl)
   ·
    refine ab rfl rfl (pE rfl (ab rfl rfl (pE rfl (ab rfl rfl (pu (ak rfl rfl rfl (gP ..) rfl) rfl ?_)))))
    refine ab rfl rfl ?_
    iterate 3 refine pE rfl ?_
    refine WO.nil (ay rfl rfl rfl)
   iterate 4 refine ar rfl rfl rfl rfl ?_
   iterate 2 refine pE rfl ?_
   refine WO.nil (ay rfl rfl rfl)
  refine qs (ao rfl (fun h73=>?_) (fun h73=>?_))
  ·
   refine W.seq (W.region (pE rfl (WO.nil (qs (W.ret (au (ah (QF.aq trivial rfl ?_))))))))
   simp only[norm,az,ba,bt,zeroV] at *;grind
  refine W.seq ?_
  apply aC;(case hb=>rfl)
  ·
   refine pE rfl (pE rfl ?_)
   iterate 2 refine pE rfl ?_
   apply aw;(case hj=>rfl);(case hl=>rfl)
   ·
    refine ab rfl rfl (pE rfl (ab rfl rfl (pE rfl (ab rfl rfl (pu (ak rfl rfl rfl (gP ..) rfl) rfl ?_)))))
    refine ab rfl rfl (pE rfl (ab rfl rfl ?_))
    iterate 3 refine pE rfl ?_
    refine WO.nil (ay rfl rfl rfl)
   iterate 5 refine ar rfl rfl rfl rfl ?_
   iterate 2 refine pE rfl ?_
   refine WO.nil (ay rfl rfl rfl)
  refine qs (ao rfl (fun h83=>?_) (fun h83=>?_))
  ·
   refine W.seq (W.region (pE rfl (WO.nil (qs (W.ret (au (ah (QF.aq trivial rfl ?_))))))))
   simp only[norm,az,ba,bt,zeroV] at *;grind
  refine W.skip (aX (qs (W.seq (W.region (pE rfl (WO.nil (qs (W.ret (QF.aq trivial rfl ?_)))))))))
  simp only[norm,az,ba,bt,zeroV] at *;grind
 refine W.seq ?_
 apply aC;(case hb=>rfl)
 ·
  refine pE rfl (pE rfl ?_)
  iterate 2 refine pE rfl ?_
  apply aw;(case hj=>rfl);(case hl=>rfl)
  ·
   iterate 3 refine ar rfl rfl rfl rfl ?_
   iterate 2 refine pE rfl ?_
   refine WO.nil (ay rfl rfl rfl)
  refine ab rfl rfl (pE rfl (ab rfl rfl (pE rfl (ab rfl rfl ?_))))
  iterate 3 refine pE rfl ?_
  refine WO.nil (ay rfl rfl rfl)
 refine qs (ao rfl (fun h14=>?_) (fun h14=>?_))
 ·
  refine W.region (pE rfl (WO.nil (aX (qs (W.seq (W.block ?_))))))
  iterate 2 refine W.seq ?_
  refine W.region (pE rfl (pE rfl ?_))
  iterate 4 refine pE rfl ?_
  refine WO.nil (qs (ao rfl (fun h39=>?_) (fun h39=>?_)))
  ·
   refine W.skip (qs (W.cS rfl (W.seq (W.region (pE rfl (WO.nil (qs (W.ret (au (ah (QF.aq trivial rfl ?_)))))))))))
   simp only[norm,az,ba,bt,zeroV] at *;grind
  refine W.seq ?_
  apply aC;(case hb=>rfl)
  ·
   refine pE rfl (pE rfl ?_)
   iterate 2 refine pE rfl ?_
   apply aw;(case hj=>rfl);(case hl=>rfl)
   ·
    refine ab rfl rfl (pE rfl (ab rfl rfl ?_))
    iterate 3 refine pE rfl ?_
    refine WO.nil (ay rfl rfl rfl)
   iterate 2 refine ar rfl rfl rfl rfl ?_
   iterate 2 refine pE rfl ?_
   refine WO.nil (ay rfl rfl rfl)
  refine qs (ao rfl (fun h39=>?_) (fun h39=>?_))
  ·
   refine W.skip (qs (W.cS rfl (W.seq (W.region (pE rfl (WO.nil (qs (W.ret (au (ah (QF.aq trivial rfl ?_)))))))))))
   simp only[norm,az,ba,bt,zeroV] at *;grind
  apply aC;(case hb=>rfl)
  ·
   refine pE rfl (pE rfl (pu (build aa rfl rfl rfl rfl) rfl ?_))
   iterate 2 refine pE rfl ?_
   apply aw;(case hj=>rfl);(case hl=>rfl)
   ·
    refine ab rfl rfl (pE rfl (ab rfl rfl ?_))
    iterate 3 refine pE rfl ?_
    refine WO.nil (ay rfl rfl rfl)
   iterate 2 refine ar rfl rfl rfl rfl ?_
   iterate 2 refine pE rfl ?_
   refine WO.nil (ay rfl rfl rfl)
  refine qs (ao rfl (fun h39=>?_) (fun h39=>?_))
  ·
   refine W.seq (W.region (pE rfl (WO.nil (qs (W.ret (au (ah (QF.aq trivial rfl ?_))))))))
   simp only[norm,az,ba,bt,zeroV] at *;grind
  refine W.seq (W.region ?_)
  iterate 2 refine pE rfl ?_
  refine WO.nil (qs (W.sI rfl (W.seq ?_)))
  apply aC;(case hb=>rfl)
  ·
   iterate 2 refine pE rfl ?_
   iterate 4 refine ar rfl rfl rfl rfl ?_
   iterate 2 refine pE rfl ?_
   refine WO.nil (ay rfl rfl rfl)
  refine qs (ao rfl (fun h65=>?_) (fun h65=>?_))
  ·
   refine W.seq (W.region (pE rfl (WO.nil (qs (W.ret (au (ah (QF.aq trivial rfl ?_))))))))
   simp only[norm,az,ba,bt,zeroV] at *;grind
  refine W.seq ?_
  apply aC;(case hb=>rfl)
  ·
   refine pE rfl (pE rfl ?_)
   iterate 2 refine pE rfl ?_
   apply aw;(case hj=>rfl);(case hl=>rfl)
   ·
    refine ab rfl rfl (pE rfl (ab rfl rfl (pE rfl (ab rfl rfl (pu (ak rfl rfl rfl (gP ..) rfl) rfl ?_)))))
    refine ab rfl rfl ?_
    iterate 3 refine pE rfl ?_
    refine WO.nil (ay rfl rfl rfl)
   iterate 4 refine ar rfl rfl rfl rfl ?_
   iterate 2 refine pE rfl ?_
   refine WO.nil (ay rfl rfl rfl)
  refine qs (ao rfl (fun h73=>?_) (fun h73=>?_))
  ·
   refine W.seq (W.region (pE rfl (WO.nil (qs (W.ret (au (ah (QF.aq trivial rfl ?_))))))))
   simp only[norm,az,ba,bt,zeroV] at *;grind
  refine W.seq ?_
  apply aC;(case hb=>rfl)
  ·
   refine pE rfl (pE rfl ?_)
   iterate 2 refine pE rfl ?_
   apply aw;(case hj=>rfl);(case hl=>rfl)
   ·
    refine ab rfl rfl (pE rfl (ab rfl rfl (pE rfl (ab rfl rfl (pu (ak rfl rfl rfl (gP ..) rfl) rfl ?_)))))
    refine ab rfl rfl (pE rfl (ab rfl rfl ?_))
    iterate 3 refine pE rfl ?_
    refine WO.nil (ay rfl rfl rfl)
   iterate 5 refine ar rfl rfl rfl rfl ?_
   iterate 2 refine pE rfl ?_
   refine WO.nil (ay rfl rfl rfl)
  refine qs (ao rfl (fun h83=>?_) (fun h83=>?_))
  ·
   refine W.seq (W.region (pE rfl (WO.nil (qs (W.ret (au (ah (QF.aq trivial rfl ?_))))))))
   simp only[norm,az,ba,bt,zeroV] at *;grind
  refine W.skip (aX (qs (W.seq (W.region (pE rfl (WO.nil (qs (W.ret (QF.aq trivial rfl ?_)))))))))
  simp only[norm,az,ba,bt,zeroV] at *;grind
 refine W.seq (W.region (pE rfl (pE rfl ?_)))
 iterate 2 refine pE rfl ?_
 refine WO.nil (qs (ao rfl (fun h23=>?_) (fun h23=>?_)))
 ·
  refine W.region (pE rfl (pE rfl ?_))
  iterate 3 refine pE rfl ?_
  refine WO.nil (aX (qs (W.seq (W.block ?_))))
  iterate 2 refine W.seq ?_
  refine W.region (pE rfl (pE rfl ?_))
  iterate 4 refine pE rfl ?_
  refine WO.nil (qs (ao rfl (fun h39=>?_) (fun h39=>?_)))
  ·
   refine W.skip (qs (W.cS rfl (W.seq (W.region (pE rfl (WO.nil (qs (W.ret (au (ah (QF.aq trivial rfl ?_)))))))))))
   simp only[norm,az,ba,bt,zeroV] at *;grind
  refine W.seq ?_
  apply aC;(case hb=>rfl)
  ·
   refine pE rfl (pE rfl ?_)
   iterate 2 refine pE rfl ?_
   apply aw;(case hj=>rfl);(case hl=>rfl)
   ·
    refine ab rfl rfl (pE rfl (ab rfl rfl ?_))
    iterate 3 refine pE rfl ?_
    refine WO.nil (ay rfl rfl rfl)
   iterate 2 refine ar rfl rfl rfl rfl ?_
   iterate 2 refine pE rfl ?_
   refine WO.nil (ay rfl rfl rfl)
  refine qs (ao rfl (fun h39=>?_) (fun h39=>?_))
  ·
   refine W.skip (qs (W.cS rfl (W.seq (W.region (pE rfl (WO.nil (qs (W.ret (au (ah (QF.aq trivial rfl ?_)))))))))))
   simp only[norm,az,ba,bt,zeroV] at *;grind
  apply aC;(case hb=>rfl)
  ·
   refine pE rfl (pE rfl (pu (build aa rfl rfl rfl rfl) rfl ?_))
   iterate 2 refine pE rfl ?_
   apply aw;(case hj=>rfl);(case hl=>rfl)
   ·
    refine ab rfl rfl (pE rfl (ab rfl rfl ?_))
    iterate 3 refine pE rfl ?_
    refine WO.nil (ay rfl rfl rfl)
   iterate 2 refine ar rfl rfl rfl rfl ?_
   iterate 2 refine pE rfl ?_
   refine WO.nil (ay rfl rfl rfl)
  refine qs (ao rfl (fun h39=>?_) (fun h39=>?_))
  ·
   refine W.seq (W.region (pE rfl (WO.nil (qs (W.ret (au (ah (QF.aq trivial rfl ?_))))))))
   simp only[norm,az,ba,bt,zeroV] at *;grind
  refine W.seq (W.region ?_)
  iterate 2 refine pE rfl ?_
  refine WO.nil (qs (W.sI rfl (W.seq ?_)))
  apply aC;(case hb=>rfl)
  ·
   iterate 2 refine pE rfl ?_
   refine ab rfl rfl (pE rfl (ab rfl rfl (pE rfl (ab rfl rfl (pu (ak rfl rfl rfl (gz ..) rfl) rfl ?_)))))
   refine ab rfl rfl ?_
   iterate 3 refine pE rfl ?_
   refine WO.nil (ay rfl rfl rfl)
  refine qs (ao rfl (fun h65=>?_) (fun h65=>?_))
  ·
   refine W.seq (W.region (pE rfl (WO.nil (qs (W.ret (au (ah (QF.aq trivial rfl ?_))))))))
   simp only[norm,az,ba,bt,zeroV] at *;grind
  refine W.seq ?_
  apply aC;(case hb=>rfl)
  ·
   refine pE rfl (pE rfl ?_)
   iterate 2 refine pE rfl ?_
   apply aw;(case hj=>rfl);(case hl=>rfl)
   ·
    refine ab rfl rfl (pE rfl (ab rfl rfl (pE rfl (ab rfl rfl (pu (ak rfl rfl rfl (gP ..) rfl) rfl ?_)))))
    refine ab rfl rfl ?_
    iterate 3 refine pE rfl ?_
    refine WO.nil (ay rfl rfl rfl)
   iterate 4 refine ar rfl rfl rfl rfl ?_
   iterate 2 refine pE rfl ?_
   refine WO.nil (ay rfl rfl rfl)
  refine qs (ao rfl (fun h73=>?_) (fun h73=>?_))
  ·
   refine W.seq (W.region (pE rfl (WO.nil (qs (W.ret (au (ah (QF.aq trivial rfl ?_))))))))
   simp only[norm,az,ba,bt,zeroV] at *;grind
  refine W.seq ?_
  apply aC;(case hb=>rfl)
  ·
   refine pE rfl (pE rfl ?_)
   iterate 2 refine pE rfl ?_
   apply aw;(case hj=>rfl);(case hl=>rfl)
   ·
    refine ab rfl rfl (pE rfl (ab rfl rfl (pE rfl (ab rfl rfl (pu (ak rfl rfl rfl (gP ..) rfl) rfl ?_)))))
    refine ab rfl rfl (pE rfl (ab rfl rfl ?_))
    iterate 3 refine pE rfl ?_
    refine WO.nil (ay rfl rfl rfl)
   iterate 5 refine ar rfl rfl rfl rfl ?_
   iterate 2 refine pE rfl ?_
   refine WO.nil (ay rfl rfl rfl)
  refine qs (ao rfl (fun h83=>?_) (fun h83=>?_))
  ·
   refine W.seq (W.region (pE rfl (WO.nil (qs (W.ret (au (ah (QF.aq trivial rfl ?_))))))))
   simp only[norm,az,ba,bt,zeroV] at *;grind
  refine W.skip (aX (qs (W.seq (W.region (pE rfl (WO.nil (qs (W.ret (QF.aq trivial rfl ?_)))))))))
  simp only[norm,az,ba,bt,zeroV] at *;grind
 refine W.seq ?_
 apply aC;(case hb=>rfl)
 ·
  refine pE rfl (pE rfl ?_)
  iterate 2 refine pE rfl ?_
  apply aw;(case hj=>rfl);(case hl=>rfl)
  ·
   iterate 3 refine ar rfl rfl rfl rfl ?_
   iterate 2 refine pE rfl ?_
   refine WO.nil (ay rfl rfl rfl)
  refine ab rfl rfl (pE rfl (ab rfl rfl (pE rfl (ab rfl rfl ?_))))
  iterate 3 refine pE rfl ?_
  refine WO.nil (ay rfl rfl rfl)
 refine qs (ao rfl (fun h30=>?_) (fun h30=>?_))
 ·
  refine W.seq (W.region (pE rfl (WO.nil (qs (W.ret (au (ah (QF.aq trivial rfl ?_))))))))
  simp only[norm,az,ba,bt,zeroV] at *;grind
 refine W.skip (aX (qs (W.seq (W.block ?_))))
 iterate 2 refine W.seq ?_
 refine W.region (pE rfl (pE rfl ?_))
 iterate 4 refine pE rfl ?_
 refine WO.nil (qs (ao rfl (fun h39=>?_) (fun h39=>?_)))
 ·
  refine W.skip (qs (W.cS rfl (W.seq (W.region (pE rfl (WO.nil (qs (W.ret (au (ah (QF.aq trivial rfl ?_)))))))))))
  simp only[norm,az,ba,bt,zeroV] at *;grind
 refine W.seq ?_
 apply aC;(case hb=>rfl)
 ·
  refine pE rfl (pE rfl ?_)
  iterate 2 refine pE rfl ?_
  apply aw;(case hj=>rfl);(case hl=>rfl)
  ·
   refine ab rfl rfl (pE rfl (ab rfl rfl ?_))
   iterate 3 refine pE rfl ?_
   refine WO.nil (ay rfl rfl rfl)
  iterate 2 refine ar rfl rfl rfl rfl ?_
  iterate 2 refine pE rfl ?_
  refine WO.nil (ay rfl rfl rfl)
 refine qs (ao rfl (fun h39=>?_) (fun h39=>?_))
 ·
  refine W.skip (qs (W.cS rfl (W.seq (W.region (pE rfl (WO.nil (qs (W.ret (au (ah (QF.aq trivial rfl ?_)))))))))))
  simp only[norm,az,ba,bt,zeroV] at *;grind
 apply aC;(case hb=>rfl)
 ·
  refine pE rfl (pE rfl (pu (build aa rfl rfl rfl rfl) rfl ?_))
  iterate 2 refine pE rfl ?_
  apply aw;(case hj=>rfl);(case hl=>rfl)
  ·
   refine ab rfl rfl (pE rfl (ab rfl rfl ?_))
   iterate 3 refine pE rfl ?_
   refine WO.nil (ay rfl rfl rfl)
  iterate 2 refine ar rfl rfl rfl rfl ?_
  iterate 2 refine pE rfl ?_
  refine WO.nil (ay rfl rfl rfl)
 refine qs (ao rfl (fun h39=>?_) (fun h39=>?_))
 ·
  refine W.seq (W.region (pE rfl (WO.nil (qs (W.ret (au (ah (QF.aq trivial rfl ?_))))))))
  simp only[norm,az,ba,bt,zeroV] at *;grind
 refine W.seq (W.region ?_)
 iterate 2 refine pE rfl ?_
 refine WO.nil (qs (W.sI rfl (W.seq ?_)))
 apply aC;(case hb=>rfl)
 ·
  iterate 2 refine pE rfl ?_
  iterate 4 refine ar rfl rfl rfl rfl ?_
  iterate 2 refine pE rfl ?_
  refine WO.nil (ay rfl rfl rfl)
 refine qs (ao rfl (fun h65=>?_) (fun h65=>?_))
 ·
  refine W.seq (W.region (pE rfl (WO.nil (qs (W.ret (au (ah (QF.aq trivial rfl ?_))))))))
  simp only[norm,az,ba,bt,zeroV] at *;grind
 refine W.seq ?_
 apply aC;(case hb=>rfl)
 ·
  refine pE rfl (pE rfl ?_)
  iterate 2 refine pE rfl ?_
  apply aw;(case hj=>rfl);(case hl=>rfl)
  ·
   refine ab rfl rfl (pE rfl (ab rfl rfl (pE rfl (ab rfl rfl (pu (ak rfl rfl rfl (gP ..) rfl) rfl ?_)))))
   refine ab rfl rfl ?_
   iterate 3 refine pE rfl ?_
   refine WO.nil (ay rfl rfl rfl)
  iterate 4 refine ar rfl rfl rfl rfl ?_
  iterate 2 refine pE rfl ?_
  refine WO.nil (ay rfl rfl rfl)
 refine qs (ao rfl (fun h73=>?_) (fun h73=>?_))
 ·
  refine W.seq (W.region (pE rfl (WO.nil (qs (W.ret (au (ah (QF.aq trivial rfl ?_))))))))
  simp only[norm,az,ba,bt,zeroV] at *;grind
 refine W.seq ?_
 apply aC;(case hb=>rfl)
 ·
  refine pE rfl (pE rfl ?_)
  iterate 2 refine pE rfl ?_
  apply aw;(case hj=>rfl);(case hl=>rfl)
  ·
   refine ab rfl rfl (pE rfl (ab rfl rfl (pE rfl (ab rfl rfl (pu (ak rfl rfl rfl (gP ..) rfl) rfl ?_)))))
   refine ab rfl rfl (pE rfl (ab rfl rfl ?_))
   iterate 3 refine pE rfl ?_
   refine WO.nil (ay rfl rfl rfl)
  iterate 5 refine ar rfl rfl rfl rfl ?_
  iterate 2 refine pE rfl ?_
  refine WO.nil (ay rfl rfl rfl)
 refine qs (ao rfl (fun h83=>?_) (fun h83=>?_))
 ·
  refine W.seq (W.region (pE rfl (WO.nil (qs (W.ret (au (ah (QF.aq trivial rfl ?_))))))))
  simp only[norm,az,ba,bt,zeroV] at *;grind
 refine W.skip (aX (qs (W.seq (W.region (pE rfl (WO.nil (qs (W.ret (QF.aq trivial rfl ?_)))))))))
 simp only[norm,az,ba,bt,zeroV] at *;grind
theorem yy:∀ (e:Ex),ax Tryz.prog 132 [.ag e.c] (.d (.v (.int .i64 (cJ e)))) 0:=by
 refine Ex.ind fun e ih=>?_
 have hq:=kg e
 refine ax.aT (n:=25) (ts:=[2]) Tryz.func132 (by kernel_rfl) rfl Tryz.ntmps132 Tryz.results132 rfl rfl fun C hC hG=>?_
 refine W.seq (W.region (br rfl rfl rfl (pE rfl (WO.nil (qs ?_)))))
 iterate 2 refine W.seq ?_
 refine W.region (pE rfl (pu (ak rfl rfl rfl (yV ..) rfl) rfl ?_))
 refine pE rfl (WO.nil (qs (W.seq (W.region ?_))))
 iterate 2 refine pE rfl ?_
 refine WO.nil (qs (ao rfl (fun h10=>?_) (fun h10=>?_)))
 ·
  rw[if_pos (by simpa using h10)] at hq
  refine W.seq (W.region ?_)
  iterate 2 refine pE rfl ?_
  refine WO.nil (qs (W.ret (ah (QF.aq trivial rfl ?_))))
  rw[hq];rfl
 rw[if_neg (by simpa using h10)] at hq
 refine W.skip (qs ?_)
 iterate 2 refine W.seq ?_
 refine W.region (pE rfl (pE rfl ?_))
 iterate 2 refine pE rfl ?_
 refine WO.nil (qs (W.block (W.len (t:=13) rfl rfl (fun hlen=>?_))))
 try simp only[List.length_map,Ex.aF] at hlen
 refine W.aS (ι:={x:Nat // match x with | k=>k≤e.kids.length∧eg (e.kids.drop k)=eg e.kids})
  (fun x=>match x.1 with | k=>[(15,.d (.v (.int .i64 ((k:Nat):Int))))]) [(13,_),(14,_)]
  (fun x=>match x.1 with | k=>[]) [] [] 0 (fun x=>match x.1 with | k=>e.kids.length - k)
  [] ⟨0,?_⟩ rfl ?_ ⟨rfl,rfl,rfl,rfl,trivial⟩ ?_ trivial rfl ?_
 · exact⟨Nat.zero_le _,rfl⟩
 · repeat' first | exact trivial | refine⟨rfl,?_⟩
 · repeat' exact trivial
 rintro⟨k,hk,hI⟩
 show W _ _ _ _ _ ⟨[(15,.d (.v (.int .i64 ((k:Nat):Int)))),(13,_),(14,_)],[],[],0⟩
 refine W.seq (W.region (pE rfl (WO.nil (qs (W.seq (a9 (l:=e.kids) (k:=k) rfl (by simp[Ex.aF,aL]) hk (fun x hx hd hlt=>?_) (fun he hd=>?_)))))))
 ·
  rw[hd] at hI
  simp only[eg] at hI
  refine W.skip (qs (W.seq (W.block (W.seq (W.region (pu (indexAddr aa rfl rfl rfl rfl rfl rfl (Int.natCast_nonneg _) (Ex.ld hx) rfl) rfl ?_))))))
  refine pE rfl (a8 aa rfl rfl rfl (aR aa rfl rfl rfl rfl rfl rfl rfl rfl (WO.nil (qs (W.seq (W.region (pE rfl (pu (ak rfl rfl rfl (ih x (List.mem_of_getElem? hx)) rfl) rfl ?_))))))))
  refine pE rfl (WO.nil (qs (W.seq (W.region ?_))))
  iterate 2 refine pE rfl ?_
  refine WO.nil (qs (ao rfl (fun h22=>?_) (fun h22=>?_)))
  ·
   rw[if_pos (by simpa using h22)] at hI
   refine W.seq (W.region ?_)
   iterate 2 refine pE rfl ?_
   refine WO.nil (qs (W.ret (au (ah (aZ (au (ah (QF.aq trivial rfl ?_))))))))
   rw[hq,←hI];rfl
  rw[if_neg (by simpa using h22)] at hI
  refine W.skip (aX (qs (W.region ?_)))
  iterate 2 refine pE rfl ?_
  refine WO.nil (W.aU [] ⟨k+1,?_⟩ ?_ rfl ?_ ⟨rfl,rfl,rfl,rfl,trivial⟩ ?_ trivial rfl)
  · exact⟨hlt,hI⟩
  · dsimp only;omega
  · repeat' first | exact trivial | refine⟨aD (by assumption) (by assumption),?_⟩
  repeat' exact trivial
 rw[hd] at hI
 simp only[eg] at hI
 refine W.exit (aN (aQ (aO (qs (W.seq (W.region (pE rfl (WO.nil (qs (W.ret (QF.aq trivial rfl ?_)))))))))))
 rw[hq,←hI];rfl
theorem wN:∀ (e:Ex),ax Tryz.prog 141 [.ag e.c] (.d (.v (.int .i64 (cJ e)))) 0:=by
 refine Ex.ind fun e ih=>?_
 have hq:=kg e
 refine ax.aT (n:=25) (ts:=[2]) Tryz.func141 (by kernel_rfl) rfl Tryz.ntmps141 Tryz.results141 rfl rfl fun C hC hG=>?_
 refine W.seq (W.region (br rfl rfl rfl (pE rfl (WO.nil (qs (W.seq (W.region (pE rfl (pu (ak rfl rfl rfl (yD ..) rfl) rfl ?_)))))))))
 refine pE rfl (WO.nil (qs ?_))
 iterate 2 refine W.seq ?_
 refine W.region (pE rfl (WO.nil (qs (W.block (gy (g:=0) (j:=5) rfl rfl (fun hlen=>?_))))))
 rw[Ex.aF] at hlen
 refine W.aS (ι:={x:Nat×Int // match x with | (k,x')=>k≤e.kids.length∧cJ e=(if x'≠0 then x' else eg (e.kids.drop k))})
  (fun x=>match x.1 with | (k,x')=>[(1,.ptr 0 0),(3,.d (.v (.int .i64 (x')))),(4,.d (.v (.int .i64 ((k:Nat):Int))))]) []
  (fun x=>match x.1 with | (k,x')=>[]) [(0,_)] [] 1 (fun x=>match x.1 with | (k,x')=>e.kids.length - k)
  [0] ⟨(0,ba e),?_⟩ rfl ?_ trivial ?_ ⟨rfl,rfl,trivial⟩ rfl ?_
 · exact⟨Nat.zero_le _,hq⟩
 · repeat' first | exact trivial | refine⟨rfl,?_⟩
 · repeat' exact trivial
 rintro⟨⟨k,x'⟩,hk,hI⟩
 show W _ _ _ _ _ ⟨[(1,.ptr 0 0),(3,.d (.v (.int .i64 (x')))),(4,.d (.v (.int .i64 ((k:Nat):Int))))],[(0,_)],[],1⟩
 iterate 2 refine W.seq ?_
 apply aC;(case hb=>rfl)
 ·
  iterate 2 refine pE rfl ?_
  refine pE rfl ?_
  iterate 3 refine pE rfl ?_
  apply aw;(case hj=>rfl);(case hl=>rfl)
  ·
   refine ab rfl rfl (pE rfl (ab rfl rfl ?_))
   iterate 2 refine pE rfl ?_
   refine WO.nil (ay rfl rfl rfl)
  iterate 2 refine ar rfl rfl rfl rfl ?_
  refine pE rfl (WO.nil (ay rfl rfl rfl))
 refine qs (ao rfl (fun h15=>?_) (fun h15=>?_))
 ·
  have h15:k < e.kids.length∧x'=0:=by simpa [Ex.aF] using h15
  have hlt:=h15.1
  obtain⟨x,hx,hd⟩:=nA hlt
  rw[hd,h15.2] at hI
  simp only[eg,ne_eq,not_true_eq_false,if_false] at hI
  refine W.skip (qs (W.seq (W.block (W.region (pE rfl (pE rfl (pE rfl (pu (indexAddr aa rfl rfl rfl rfl rfl rfl (Int.natCast_nonneg _) (Ex.ld hx) rfl) rfl ?_))))))))
  refine pE rfl (pu (ak rfl rfl rfl (ih x (List.mem_of_getElem? hx)) rfl) rfl ?_)
  refine pE rfl (WO.nil (aX (qs (W.region ?_))))
  iterate 3 refine pE rfl ?_
  refine WO.nil (W.aU [0] ⟨(k+1,cJ x),?_⟩ ?_ rfl ?_ trivial ?_ ⟨rfl,rfl,trivial⟩ rfl)
  · exact⟨hlt,hI⟩
  · dsimp only;omega
  · repeat' first | exact trivial | refine⟨rfl,?_⟩ | refine⟨aD (by assumption) (by assumption),?_⟩
  repeat' exact trivial
 have h15:k < e.kids.length→x'≠0:=by simpa [Ex.aF] using h15
 have hfin:cJ e=x':=by
  rw[hI]
  rcases Nat.lt_or_ge k e.kids.length with h | h
  · rw[if_pos (h15 h)]
  rw[dropEnd h];simp only[eg];split <;> simp_all
 refine W.exit (aN (aQ (aO (qs (W.seq (W.region ?_))))))
 iterate 2 refine pE rfl ?_
 refine WO.nil (qs (W.ret (QF.aq trivial rfl ?_)))
 rw[hfin];rfl
theorem u9 (e:Ex):ax Tryz.prog 93 [.ag e.c] (.d (.v (.int .i64 (dh e)))) 0:=by
 have hm:=pQ e 0 (by omega) (by omega)
 refine ax.aT (n:=18) (ts:=[2]) Tryz.func93 (by kernel_rfl) rfl Tryz.ntmps93 Tryz.results93 rfl rfl fun C hC hG=>?_
 refine W.seq (W.region (br rfl rfl rfl (pE rfl (WO.nil (qs (W.seq (W.region (pE rfl (pu (ak rfl rfl rfl (vY e 0 (by omega) (by omega)) rfl) rfl ?_)))))))))
 iterate 5 refine pE rfl ?_
 refine WO.nil (qs (W.seq (W.block (W.seq (W.region ?_)))))
 iterate 3 refine pE rfl ?_
 refine WO.nil (qs (ao rfl (fun h10=>?_) (fun h10=>?_)))
 ·
  refine W.seq (W.region (pE rfl (WO.nil (qs (W.ret (au (ah (QF.aq trivial rfl ?_))))))))
  simp only[norm,az,dh] at *;grind
 refine W.seq (W.region ?_)
 iterate 3 refine pE rfl ?_
 refine WO.nil (qs (ao rfl (fun h13=>?_) (fun h13=>?_)))
 ·
  refine W.seq (W.region (pE rfl (WO.nil (qs (W.ret (au (ah (QF.aq trivial rfl ?_))))))))
  simp only[norm,az,dh] at *;grind
 refine W.skip (aX (qs (W.seq (W.region (pE rfl (pu (ak rfl rfl rfl (yy ..) rfl) rfl ?_))))))
 refine pE rfl (WO.nil (qs (W.ret (QF.aq trivial rfl ?_))))
 simp only[norm,az,dh] at *;grind
theorem pz (e:Ex):ax Tryz.prog 113 [.ag e.c] (.d (.v (.int .i64 (dh e)))) 0:=by
 have hm:=mU e 200 (by omega)
 refine ax.aT (n:=11) (ts:=[2]) Tryz.func113 (by kernel_rfl) rfl Tryz.ntmps113 Tryz.results113 rfl rfl fun C hC hG=>?_
 refine W.seq (W.region (br rfl rfl rfl (pE rfl (WO.nil (qs ?_)))))
 iterate 2 refine W.seq ?_
 refine W.region (pE rfl (pu (ak rfl rfl rfl (yd e 200 (by omega) (by omega)) rfl) rfl ?_))
 refine pE rfl (WO.nil (qs (ao rfl (fun h5=>?_) (fun h5=>?_))))
 ·
  refine W.seq (W.region (pE rfl (WO.nil (qs (W.ret (ah (QF.aq trivial rfl ?_)))))))
  simp only[norm,az,dh] at *;grind
 have h5:count e 200≤200:=by simpa using h5
 have hc:jg e≤200:=by omega
 refine W.skip (qs ?_)
 iterate 2 refine W.seq ?_
 refine W.region (pE rfl (pu (ak rfl rfl rfl (xq e hc) rfl) rfl ?_))
 refine pE rfl (WO.nil (qs (ao rfl (fun h8=>?_) (fun h8=>?_))))
 ·
  refine W.seq (W.region (pE rfl (WO.nil (qs (W.ret (ah (QF.aq trivial rfl ?_)))))))
  simp only[norm,az,dh] at *;grind
 refine W.skip (qs (W.seq (W.region (pE rfl (pu (ak rfl rfl rfl (wN ..) rfl) rfl ?_)))))
 refine pE rfl (WO.nil (qs (W.ret (QF.aq trivial rfl ?_))))
 simp only[norm,az,dh] at *;grind
end Go.Proofs.YtjenenllmjlimaaGreat
namespace Go.Proofs.YtjenenllmjlimaaGreat
open Go.Ab Go.Tb
set_option maxRecDepth 10000
attribute [local irreducible] W WO Pu QS QB QL QF QV b7 CH QE
theorem gM (cols:List Col) (name:ByteArray):ax Tryz.prog 80 [.d (.sl (cols.map Col.c)),.d (.v (.string name))] (.d (.v (.int .i64 (idx (cols.findIdx? fun x=>decide (x.name=name)))))) 0:=by
 refine ax.aT (n:=20) (ts:=[4]) Tryz.func80 (by kernel_rfl) rfl Tryz.ntmps80 Tryz.results80 rfl rfl fun C hC hG=>?_
 refine W.seq (W.region (pE rfl (WO.nil (qs ?_))))
 iterate 2 refine W.seq ?_
 refine W.region (pE rfl (WO.nil (qs (W.block (W.len (t:=0) rfl rfl (fun hlen=>?_))))))
 try simp only[List.length_map,Ex.aF] at hlen
 refine W.aS (ι:={x:Nat // match x with | k=>k≤cols.length∧bm (fun x=>decide (x.name=name)) cols k})
  (fun x=>match x.1 with | k=>[(5,.d (.v (.int .i64 ((k:Nat):Int))))]) [(0,_),(1,_)]
  (fun x=>match x.1 with | k=>[]) [] [] 0 (fun x=>match x.1 with | k=>cols.length - k)
  [] ⟨0,?_⟩ rfl ?_ ⟨rfl,rfl,rfl,rfl,trivial⟩ ?_ trivial rfl ?_
 · exact⟨Nat.zero_le _,bm.zero⟩
 · repeat' first | exact trivial | refine⟨rfl,?_⟩
 · repeat' exact trivial
 rintro⟨k,hk,hI⟩
 show W _ _ _ _ _ ⟨[(5,.d (.v (.int .i64 ((k:Nat):Int)))),(0,_),(1,_)],[],[],0⟩
 iterate 2 refine W.seq ?_
 refine W.region ?_
 iterate 4 refine pE rfl ?_
 refine WO.nil (qs (a9 (l:=cols) (k:=k) rfl (by simp[Ex.aF,aL]) hk (fun x hx hd hlt=>?_) (fun he hd=>?_)))
 ·
  refine W.skip (qs (W.seq (W.block (W.seq (W.region ?_)))))
  iterate 2 refine pE rfl ?_
  refine pu (indexAddr aa rfl rfl rfl rfl rfl rfl (Int.natCast_nonneg _) (aE (by assumption)) rfl) rfl ?_
  refine pE rfl (pE rfl ?_)
  iterate 2 refine pE rfl ?_
  refine WO.nil (qs (ao rfl (fun h18=>?_) (fun h18=>?_)))
  ·
   refine W.seq (W.region ?_)
   iterate 2 refine pE rfl ?_
   refine WO.nil (qs (W.ret (au (ah (aZ (au (ah (QF.aq trivial rfl ?_))))))))
   simp only[norm,az];rw[hI.found hx h18];rfl
  refine W.skip (aX (qs (W.region ?_)))
  iterate 3 refine pE rfl ?_
  refine WO.nil (W.aU [] ⟨k+1,?_⟩ ?_ rfl ?_ ⟨rfl,rfl,rfl,rfl,trivial⟩ ?_ trivial rfl)
  · exact⟨hlt,hI.step hx h18⟩
  · dsimp only;omega
  · repeat' first | exact trivial | refine⟨aD (by assumption) (by assumption),?_⟩
  repeat' exact trivial
 refine W.exit (aN (aQ (aO (qs (W.seq (W.region (pE rfl (WO.nil (qs (W.ret (QF.aq trivial rfl ?_)))))))))))
 simp only[norm,az];rw[hI.end_ he];rfl
theorem yW (s:ByteArray) (ks:List Int) (h:(ks.length:Int)=arity s) (h0:arity s≠0):ax Tryz.prog 101 [.d (.v (.string s)),.d (.sl (ks.map ic))]
  (.tup [.d (.v (.int .i64 (cY (eH s (ks.getD 0 0) (ks.getD 1 0)).2 (eH s (ks.getD 0 0) (ks.getD 1 0)).1).1)),.d (.v (.int .i64 (cY (eH s (ks.getD 0 0) (ks.getD 1 0)).2 (eH s (ks.getD 0 0) (ks.getD 1 0)).1).2))]) 0:=by
 refine ax.aT (n:=45) (ts:=[4,5]) Tryz.func101 (by kernel_rfl) rfl Tryz.ntmps101 Tryz.results101 rfl rfl fun C hC hG=>?_
 refine W.seq (W.region ?_)
 iterate 2 refine pE rfl ?_
 refine WO.nil (qs ?_)
 iterate 2 refine W.seq ?_
 refine W.region (pE rfl (WO.nil (qs (W.block ?_))))
 iterate 2 refine W.seq ?_
 refine W.region ?_
 iterate 2 refine pE rfl ?_
 refine WO.nil (qs (ao rfl (fun h7=>?_) (fun h7=>?_)))
 ·
  have hs:s=dT∨s=dS:=by first | exact .inl (of_decide_eq_true h7) | exact .inr (of_decide_eq_true h7)
  have hc:=rY hs
  have ha:arity s=2:=by rcases hs with rfl | rfl <;> decide
  obtain⟨a,b,rfl⟩:=bW (l:=ks) (by omega)
  refine W.skip (qs (W.cS rfl (W.seq (W.be aa (by kernel_rfl) ?_))))
  refine an (ev aa rfl) rfl ?_
  refine an (ak rfl rfl rfl (fc ..) rfl) rfl ?_
  refine an (ev aa rfl) rfl ?_
  refine gf rfl rfl (fun _=>?_) (fun _=>?_)
  ·
   iterate 2 refine bU rfl rfl rfl rfl ?_
   iterate 2 refine an (ev aa rfl) rfl ?_
   refine an (indexAddr aa rfl rfl rfl rfl rfl rfl (Int.le_refl _) rfl rfl) rfl ?_
   refine an (ev aa rfl) rfl ?_
   refine an (ev aa rfl) rfl ?_
   refine an (indexAddr aa rfl rfl rfl rfl rfl rfl (by decide) rfl rfl) rfl ?_
   refine an (ev aa rfl) rfl ?_
   refine an (ev aa rfl) rfl ?_
   refine an (ak rfl rfl rfl (dv ..) rfl) rfl ?_
   iterate 4 refine an (ev aa rfl) rfl ?_
   refine CH.nil ?_
   refine qs (W.ret (au (ah (QF.aq trivial rfl ?_))))
   simp only[norm,bk,az,hc,cY,both] at *;simp_all <;> grind
  refine aB rfl rfl (ev aa rfl) rfl ?_
  refine aB rfl rfl (ak rfl rfl rfl (fc ..) rfl) rfl ?_
  iterate 2 refine an (ev aa rfl) rfl ?_
  refine an (indexAddr aa rfl rfl rfl rfl rfl rfl (Int.le_refl _) rfl rfl) rfl ?_
  refine an (ev aa rfl) rfl ?_
  refine an (ev aa rfl) rfl ?_
  refine an (indexAddr aa rfl rfl rfl rfl rfl rfl (by decide) rfl rfl) rfl ?_
  refine an (ev aa rfl) rfl ?_
  refine an (ev aa rfl) rfl ?_
  refine an (ak rfl rfl rfl (dv ..) rfl) rfl ?_
  iterate 4 refine an (ev aa rfl) rfl ?_
  refine CH.nil ?_
  refine qs (W.ret (au (ah (QF.aq trivial rfl ?_))))
  simp only[norm,bk,az,hc,cY,both] at *;simp_all <;> grind
 have h7a:=h7
 refine W.region ?_
 iterate 2 refine pE rfl ?_
 refine WO.nil (qs (ao rfl (fun h7=>?_) (fun h7=>?_)))
 ·
  have hs:s=dT∨s=dS:=by first | exact .inl (of_decide_eq_true h7) | exact .inr (of_decide_eq_true h7)
  have hc:=rY hs
  have ha:arity s=2:=by rcases hs with rfl | rfl <;> decide
  obtain⟨a,b,rfl⟩:=bW (l:=ks) (by omega)
  refine W.seq (W.be aa (by kernel_rfl) ?_)
  refine an (ev aa rfl) rfl ?_
  refine an (ak rfl rfl rfl (fc ..) rfl) rfl ?_
  refine an (ev aa rfl) rfl ?_
  refine gf rfl rfl (fun _=>?_) (fun _=>?_)
  ·
   iterate 2 refine bU rfl rfl rfl rfl ?_
   iterate 2 refine an (ev aa rfl) rfl ?_
   refine an (indexAddr aa rfl rfl rfl rfl rfl rfl (Int.le_refl _) rfl rfl) rfl ?_
   refine an (ev aa rfl) rfl ?_
   refine an (ev aa rfl) rfl ?_
   refine an (indexAddr aa rfl rfl rfl rfl rfl rfl (by decide) rfl rfl) rfl ?_
   refine an (ev aa rfl) rfl ?_
   refine an (ev aa rfl) rfl ?_
   refine an (ak rfl rfl rfl (dv ..) rfl) rfl ?_
   iterate 4 refine an (ev aa rfl) rfl ?_
   refine CH.nil ?_
   refine qs (W.ret (au (ah (QF.aq trivial rfl ?_))))
   simp only[norm,bk,az,hc,cY,both] at *;simp_all <;> grind
  refine aB rfl rfl (ev aa rfl) rfl ?_
  refine aB rfl rfl (ak rfl rfl rfl (fc ..) rfl) rfl ?_
  iterate 2 refine an (ev aa rfl) rfl ?_
  refine an (indexAddr aa rfl rfl rfl rfl rfl rfl (Int.le_refl _) rfl rfl) rfl ?_
  refine an (ev aa rfl) rfl ?_
  refine an (ev aa rfl) rfl ?_
  refine an (indexAddr aa rfl rfl rfl rfl rfl rfl (by decide) rfl rfl) rfl ?_
  refine an (ev aa rfl) rfl ?_
  refine an (ev aa rfl) rfl ?_
  refine an (ak rfl rfl rfl (dv ..) rfl) rfl ?_
  iterate 4 refine an (ev aa rfl) rfl ?_
  refine CH.nil ?_
  refine qs (W.ret (au (ah (QF.aq trivial rfl ?_))))
  simp only[norm,bk,az,hc,cY,both] at *;simp_all <;> grind
 (have h7b:=h7a;skip)
 refine W.seq (W.region ?_)
 iterate 2 refine pE rfl ?_
 refine WO.nil (qs (ao rfl (fun h26=>?_) (fun h26=>?_)))
 ·
  have hs:s=de:=of_decide_eq_true h26
  have hc:∀ a b,eH s a b=(2,fits a 2):=fun a b=>by simp[eH,hs]
  have ha:=qM (.inl hs)
  obtain⟨a,rfl⟩:=nB (l:=ks) (by omega)
  refine W.seq (W.region (pE rfl (pu (ak rfl rfl rfl (fc ..) rfl) rfl ?_)))
  refine pu (ak rfl rfl rfl (dv ..) rfl) rfl ?_
  iterate 4 refine pE rfl ?_
  refine WO.nil (qs (W.ret (au (ah (QF.aq trivial rfl ?_)))))
  simp only[norm,bk,az,hc,cY,both] at *;simp_all <;> grind
 refine W.seq (W.region ?_)
 iterate 2 refine pE rfl ?_
 refine WO.nil (qs (ao rfl (fun h33=>?_) (fun h33=>?_)))
 ·
  have hs:s=dg:=of_decide_eq_true h33
  have hc:∀ a b,eH s a b=(2,fits a 3):=fun a b=>by simp[eH,hs,dg,de]
  have ha:=qM (.inr hs)
  obtain⟨a,rfl⟩:=nB (l:=ks) (by omega)
  refine W.seq (W.region (pE rfl (pu (ak rfl rfl rfl (fc ..) rfl) rfl ?_)))
  refine pu (ak rfl rfl rfl (dv ..) rfl) rfl ?_
  iterate 4 refine pE rfl ?_
  refine WO.nil (qs (W.ret (au (ah (QF.aq trivial rfl ?_)))))
  simp only[norm,bk,az,hc,cY,both] at *;simp_all <;> grind
 have hs1:s≠de:=of_decide_eq_false h26
 have hs2:s≠dg:=of_decide_eq_false h33
 have hc:=xz h0 (of_decide_eq_false h7a) (of_decide_eq_false h7) hs1 hs2
 have ha:=xh h0 hs1 hs2
 obtain⟨a,b,rfl⟩:=bW (l:=ks) (by omega)
 refine W.skip (aX (qs (W.seq (W.region (pE rfl (pu (ak rfl rfl rfl (fc ..) rfl) rfl ?_))))))
 refine pu (ak rfl rfl rfl (dv ..) rfl) rfl ?_
 iterate 4 refine pE rfl ?_
 refine WO.nil (qs (W.ret (QF.aq trivial rfl ?_)))
 simp only[norm,bk,az,hc,cY,both] at *;simp_all <;> grind
theorem xV (s:ByteArray) (ks:List Int) (h:(ks.length:Int)=arity s) (h0:arity s≠0):ax Tryz.prog 150 [.d (.v (.string s)),.d (.sl (ks.map ic))]
  (.tup [.d (.v (.int .i64 (eH s (ks.getD 0 0) (ks.getD 1 0)).1)),.d (.v (.bool (eH s (ks.getD 0 0) (ks.getD 1 0)).2))]) 0:=by
 refine ax.aT (n:=56) (ts:=[4,5]) Tryz.func150 (by kernel_rfl) rfl Tryz.ntmps150 Tryz.results150 rfl rfl fun C hC hG=>?_
 refine W.seq (W.region ?_)
 iterate 2 refine pE rfl ?_
 refine WO.nil (qs ?_)
 iterate 2 refine W.seq ?_
 refine W.region ?_
 iterate 2 refine pE rfl ?_
 refine WO.nil (qs (ao rfl (fun h8=>?_) (fun h8=>?_)))
 ·
  have hs:s=de:=of_decide_eq_true h8
  have ha:=qM (.inl hs)
  obtain⟨a,rfl⟩:=nB (l:=ks) (by omega)
  refine W.seq (W.region (pE rfl (pu (indexAddr aa rfl rfl rfl rfl rfl rfl (Int.le_refl _) rfl rfl) rfl ?_)))
  refine pE rfl (pu (ak rfl rfl rfl (fa ..) rfl) rfl ?_)
  iterate 2 refine pE rfl ?_
  refine WO.nil (qs (W.ret (ah (QF.aq trivial rfl ?_))))
  simp only[norm,bk,az,eH,de,dg,dR,bX,both] at *;simp_all <;> grind
 refine W.skip (qs ?_)
 iterate 2 refine W.seq ?_
 refine W.region ?_
 iterate 2 refine pE rfl ?_
 refine WO.nil (qs (ao rfl (fun h14=>?_) (fun h14=>?_)))
 ·
  have hs:s=dg:=of_decide_eq_true h14
  have ha:=qM (.inr hs)
  obtain⟨a,rfl⟩:=nB (l:=ks) (by omega)
  refine W.seq (W.region (pE rfl (pu (indexAddr aa rfl rfl rfl rfl rfl rfl (Int.le_refl _) rfl rfl) rfl ?_)))
  refine pE rfl (pu (ak rfl rfl rfl (fa ..) rfl) rfl ?_)
  iterate 2 refine pE rfl ?_
  refine WO.nil (qs (W.ret (ah (QF.aq trivial rfl ?_))))
  simp only[norm,bk,az,eH,de,dg,dR,bX,both] at *;simp_all <;> grind
 have hs1:s≠de:=of_decide_eq_false h8
 have hs2:s≠dg:=of_decide_eq_false h14
 have ha:=xh h0 hs1 hs2
 obtain⟨a,b,rfl⟩:=bW (l:=ks) (by omega)
 refine W.skip (qs ?_)
 iterate 2 refine W.seq ?_
 apply aC;(case hb=>rfl)
 ·
  iterate 3 refine pE rfl ?_
  apply aw;(case hj=>rfl);(case hl=>rfl)
  ·
   iterate 2 refine ar rfl rfl rfl rfl ?_
   refine pE rfl (WO.nil (ay rfl rfl rfl))
  refine ab rfl rfl (pE rfl (ab rfl rfl ?_))
  iterate 2 refine pE rfl ?_
  refine WO.nil (ay rfl rfl rfl)
 refine qs (ao rfl (fun h24=>?_) (fun h24=>?_))
 ·
  refine W.seq (W.be aa (by kernel_rfl) ?_)
  refine an (ev aa rfl) rfl ?_
  refine an (indexAddr aa rfl rfl rfl rfl rfl rfl (Int.le_refl _) rfl rfl) rfl ?_
  refine an (ev aa rfl) rfl ?_
  refine an (ev aa rfl) rfl ?_
  refine an (indexAddr aa rfl rfl rfl rfl rfl rfl (by decide) rfl rfl) rfl ?_
  refine an (ev aa rfl) rfl ?_
  refine an (ak rfl rfl rfl (gB ..) rfl) rfl ?_
  iterate 2 refine an (ev aa rfl) rfl ?_
  refine CH.nil ?_
  refine qs (W.ret (ah (QF.aq trivial rfl ?_)))
  simp only[norm,bk,az,eH,de,dg,dR,bX,both] at *;simp_all <;> grind
 refine W.skip (qs (W.seq (W.be aa (by kernel_rfl) ?_)))
 refine an (ev aa rfl) rfl ?_
 refine an (indexAddr aa rfl rfl rfl rfl rfl rfl (Int.le_refl _) rfl rfl) rfl ?_
 refine an (ev aa rfl) rfl ?_
 refine an (ev aa rfl) rfl ?_
 refine an (indexAddr aa rfl rfl rfl rfl rfl rfl (by decide) rfl rfl) rfl ?_
 refine an (ev aa rfl) rfl ?_
 iterate 2 refine an (ev aa rfl) rfl ?_
 refine CH.nil ?_
 refine qs (W.seq (W.be aa (by kernel_rfl) ?_))
 iterate 2 refine an (ev aa rfl) rfl ?_
 refine an (indexAddr aa rfl rfl rfl rfl rfl rfl (Int.le_refl _) rfl rfl) rfl ?_
 refine an (ev aa rfl) rfl ?_
 refine an (ev aa rfl) rfl ?_
 refine an (indexAddr aa rfl rfl rfl rfl rfl rfl (by decide) rfl rfl) rfl ?_
 refine an (ev aa rfl) rfl ?_
 refine an (ak rfl rfl rfl (gB ..) rfl) rfl ?_
 refine an (ev aa rfl) rfl ?_
 refine gf rfl rfl (fun _=>?_) (fun _=>?_)
 ·
  iterate 7 refine bU rfl rfl rfl rfl ?_
  iterate 3 refine an (ev aa rfl) rfl ?_
  refine CH.nil ?_
  refine qs (W.ret (QF.aq trivial rfl ?_))
  simp only[norm,bk,az,eH,de,dg,dR,bX,both] at *;simp_all <;> grind
 refine aB rfl rfl (ev aa rfl) rfl ?_
 refine aB rfl rfl (indexAddr aa rfl rfl rfl rfl rfl rfl (Int.le_refl _) rfl rfl) rfl ?_
 refine aB rfl rfl (ev aa rfl) rfl ?_
 refine aB rfl rfl (ev aa rfl) rfl ?_
 refine aB rfl rfl (indexAddr aa rfl rfl rfl rfl rfl rfl (by decide) rfl rfl) rfl ?_
 refine aB rfl rfl (ev aa rfl) rfl ?_
 refine aB rfl rfl (ak rfl rfl rfl (gB ..) rfl) rfl ?_
 iterate 3 refine an (ev aa rfl) rfl ?_
 refine CH.nil ?_
 refine qs (W.ret (QF.aq trivial rfl ?_))
 simp only[norm,bk,az,eH,de,dg,dR,bX,both] at *;simp_all <;> grind
theorem uw (e:Ex) (ks:List Int) (hv:ba e=0) (hl:ks.length=e.kids.length) (h1:e.op≠1) (h2:e.op≠2):ax Tryz.prog 142 [.ag e.c,.d (.sl (ks.map ic))]
  (.tup [.d (.v (.int .i64 (eo e.op e.name (ks.getD 0 0) (ks.getD 1 0)).1)),.d (.v (.bool (eo e.op e.name (ks.getD 0 0) (ks.getD 1 0)).2))]) 0:=by
 have hk:=mF hv
 refine ax.aT (n:=83) (ts:=[4,5]) Tryz.func142 (by kernel_rfl) rfl Tryz.ntmps142 Tryz.results142 rfl rfl fun C hC hG=>?_
 refine W.seq (W.region (br rfl rfl rfl ?_))
 iterate 2 refine pE rfl ?_
 refine WO.nil (qs ?_)
 iterate 2 refine W.seq ?_
 refine W.region (pE rfl (pE rfl (WO.nil (qs (W.block (W.seq (W.region ?_)))))))
 iterate 2 refine pE rfl ?_
 refine WO.nil (qs (ao rfl (fun h8=>?_) (fun h8=>?_)))
 ·
  obtain⟨a,rfl⟩:=nB (l:=ks) (by rw[hl];exact hk.2.1 (.inl (by simpa using h8)))
  refine W.seq (W.region (pE rfl (pu (indexAddr aa rfl rfl rfl rfl rfl rfl (Int.le_refl _) rfl rfl) rfl ?_)))
  refine pE rfl (pu (ak rfl rfl rfl (fa ..) rfl) rfl ?_)
  iterate 2 refine pE rfl ?_
  refine WO.nil (qs (W.ret (au (ah (QF.aq trivial rfl ?_)))))
  simp only[norm,bk,az,eo,both] at *;simp_all <;> grind
 iterate 2 refine W.seq ?_
 refine W.region ?_
 iterate 2 refine pE rfl ?_
 refine WO.nil (qs (ao rfl (fun h14=>?_) (fun h14=>?_)))
 ·
  obtain⟨a,b,rfl⟩:=bW (l:=ks) (by rw[hl];apply hk.2.2.2.1 <;> grind)
  refine W.skip (qs (W.cS rfl (W.seq (W.be aa (by kernel_rfl) ?_))))
  refine an (ev aa rfl) rfl ?_
  refine an (indexAddr aa rfl rfl rfl rfl rfl rfl (Int.le_refl _) rfl rfl) rfl ?_
  refine an (ev aa rfl) rfl ?_
  refine an (ev aa rfl) rfl ?_
  refine an (indexAddr aa rfl rfl rfl rfl rfl rfl (by decide) rfl rfl) rfl ?_
  refine an (ev aa rfl) rfl ?_
  refine an (ak rfl rfl rfl (gB ..) rfl) rfl ?_
  iterate 2 refine an (ev aa rfl) rfl ?_
  refine CH.nil ?_
  refine qs (W.ret (au (ah (QF.aq trivial rfl ?_))))
  simp only[norm,bk,az,eo,both] at *;simp_all <;> grind
 refine W.region ?_
 iterate 2 refine pE rfl ?_
 refine WO.nil (qs (ao rfl (fun h14=>?_) (fun h14=>?_)))
 ·
  obtain⟨a,b,rfl⟩:=bW (l:=ks) (by rw[hl];apply hk.2.2.2.1 <;> grind)
  refine W.seq (W.be aa (by kernel_rfl) ?_)
  refine an (ev aa rfl) rfl ?_
  refine an (indexAddr aa rfl rfl rfl rfl rfl rfl (Int.le_refl _) rfl rfl) rfl ?_
  refine an (ev aa rfl) rfl ?_
  refine an (ev aa rfl) rfl ?_
  refine an (indexAddr aa rfl rfl rfl rfl rfl rfl (by decide) rfl rfl) rfl ?_
  refine an (ev aa rfl) rfl ?_
  refine an (ak rfl rfl rfl (gB ..) rfl) rfl ?_
  iterate 2 refine an (ev aa rfl) rfl ?_
  refine CH.nil ?_
  refine qs (W.ret (au (ah (QF.aq trivial rfl ?_))))
  simp only[norm,bk,az,eo,both] at *;simp_all <;> grind
 refine W.seq (W.region ?_)
 iterate 2 refine pE rfl ?_
 refine WO.nil (qs (ao rfl (fun h24=>?_) (fun h24=>?_)))
 ·
  obtain⟨a,rfl⟩:=nB (l:=ks) (by rw[hl];exact hk.2.1 (.inr (by simpa using h24)))
  refine W.seq (W.region (pE rfl (pu (indexAddr aa rfl rfl rfl rfl rfl rfl (Int.le_refl _) rfl rfl) rfl ?_)))
  refine pE rfl (pu (ak rfl rfl rfl (fa ..) rfl) rfl ?_)
  iterate 2 refine pE rfl ?_
  refine WO.nil (qs (W.ret (au (ah (QF.aq trivial rfl ?_)))))
  simp only[norm,bk,az,eo,both] at *;simp_all <;> grind
 iterate 2 refine W.seq ?_
 refine W.region ?_
 iterate 2 refine pE rfl ?_
 refine WO.nil (qs (ao rfl (fun h30=>?_) (fun h30=>?_)))
 ·
  obtain⟨a,b,rfl⟩:=bW (l:=ks) (by rw[hl];apply hk.2.2.2.1 <;> grind)
  refine W.skip (qs (W.cS rfl (W.seq (W.be aa (by kernel_rfl) ?_))))
  refine an (ev aa rfl) rfl ?_
  refine an (indexAddr aa rfl rfl rfl rfl rfl rfl (Int.le_refl _) rfl rfl) rfl ?_
  refine an (ev aa rfl) rfl ?_
  refine an (ev aa rfl) rfl ?_
  refine an (indexAddr aa rfl rfl rfl rfl rfl rfl (by decide) rfl rfl) rfl ?_
  refine an (ev aa rfl) rfl ?_
  refine an (ak rfl rfl rfl (fa ..) rfl) rfl ?_
  refine an (ev aa rfl) rfl ?_
  refine gf rfl rfl (fun _=>?_) (fun _=>?_)
  ·
   iterate 7 refine bU rfl rfl rfl rfl ?_
   iterate 3 refine an (ev aa rfl) rfl ?_
   refine CH.nil ?_
   refine qs (W.ret (au (ah (QF.aq trivial rfl ?_))))
   simp only[norm,bk,az,eo,both] at *;simp_all <;> grind
  refine aB rfl rfl (ev aa rfl) rfl ?_
  refine aB rfl rfl (indexAddr aa rfl rfl rfl rfl rfl rfl (by decide) rfl rfl) rfl ?_
  refine aB rfl rfl (ev aa rfl) rfl ?_
  refine aB rfl rfl (ev aa rfl) rfl ?_
  refine aB rfl rfl (indexAddr aa rfl rfl rfl rfl rfl rfl (Int.le_refl _) rfl rfl) rfl ?_
  refine aB rfl rfl (ev aa rfl) rfl ?_
  refine aB rfl rfl (ak rfl rfl rfl (fa ..) rfl) rfl ?_
  iterate 3 refine an (ev aa rfl) rfl ?_
  refine CH.nil ?_
  refine qs (W.ret (au (ah (QF.aq trivial rfl ?_))))
  simp only[norm,bk,az,eo,both] at *;simp_all <;> grind
 refine W.region ?_
 iterate 2 refine pE rfl ?_
 refine WO.nil (qs (ao rfl (fun h30=>?_) (fun h30=>?_)))
 ·
  obtain⟨a,b,rfl⟩:=bW (l:=ks) (by rw[hl];apply hk.2.2.2.1 <;> grind)
  refine W.seq (W.be aa (by kernel_rfl) ?_)
  refine an (ev aa rfl) rfl ?_
  refine an (indexAddr aa rfl rfl rfl rfl rfl rfl (Int.le_refl _) rfl rfl) rfl ?_
  refine an (ev aa rfl) rfl ?_
  refine an (ev aa rfl) rfl ?_
  refine an (indexAddr aa rfl rfl rfl rfl rfl rfl (by decide) rfl rfl) rfl ?_
  refine an (ev aa rfl) rfl ?_
  refine an (ak rfl rfl rfl (fa ..) rfl) rfl ?_
  refine an (ev aa rfl) rfl ?_
  refine gf rfl rfl (fun _=>?_) (fun _=>?_)
  ·
   iterate 7 refine bU rfl rfl rfl rfl ?_
   iterate 3 refine an (ev aa rfl) rfl ?_
   refine CH.nil ?_
   refine qs (W.ret (au (ah (QF.aq trivial rfl ?_))))
   simp only[norm,bk,az,eo,both] at *;simp_all <;> grind
  refine aB rfl rfl (ev aa rfl) rfl ?_
  refine aB rfl rfl (indexAddr aa rfl rfl rfl rfl rfl rfl (by decide) rfl rfl) rfl ?_
  refine aB rfl rfl (ev aa rfl) rfl ?_
  refine aB rfl rfl (ev aa rfl) rfl ?_
  refine aB rfl rfl (indexAddr aa rfl rfl rfl rfl rfl rfl (Int.le_refl _) rfl rfl) rfl ?_
  refine aB rfl rfl (ev aa rfl) rfl ?_
  refine aB rfl rfl (ak rfl rfl rfl (fa ..) rfl) rfl ?_
  iterate 3 refine an (ev aa rfl) rfl ?_
  refine CH.nil ?_
  refine qs (W.ret (au (ah (QF.aq trivial rfl ?_))))
  simp only[norm,bk,az,eo,both] at *;simp_all <;> grind
 iterate 2 refine W.seq ?_
 refine W.region ?_
 iterate 2 refine pE rfl ?_
 refine WO.nil (qs (ao rfl (fun h49=>?_) (fun h49=>?_)))
 ·
  obtain⟨a,b,rfl⟩:=bW (l:=ks) (by rw[hl];apply hk.2.2.2.1 <;> grind)
  refine W.skip (qs (W.cS rfl (W.seq (W.be aa (by kernel_rfl) ?_))))
  refine an (ev aa rfl) rfl ?_
  refine an (indexAddr aa rfl rfl rfl rfl rfl rfl (Int.le_refl _) rfl rfl) rfl ?_
  refine an (ev aa rfl) rfl ?_
  refine an (ev aa rfl) rfl ?_
  refine an (indexAddr aa rfl rfl rfl rfl rfl rfl (by decide) rfl rfl) rfl ?_
  refine an (ev aa rfl) rfl ?_
  refine an (ak rfl rfl rfl (gB ..) rfl) rfl ?_
  refine an (ev aa rfl) rfl ?_
  refine gf rfl rfl (fun _=>?_) (fun _=>?_)
  ·
   iterate 7 refine bU rfl rfl rfl rfl ?_
   iterate 3 refine an (ev aa rfl) rfl ?_
   refine CH.nil ?_
   refine qs (W.ret (au (ah (QF.aq trivial rfl ?_))))
   simp only[norm,bk,az,eo,both] at *;simp_all <;> grind
  refine aB rfl rfl (ev aa rfl) rfl ?_
  refine aB rfl rfl (indexAddr aa rfl rfl rfl rfl rfl rfl (Int.le_refl _) rfl rfl) rfl ?_
  refine aB rfl rfl (ev aa rfl) rfl ?_
  refine aB rfl rfl (ev aa rfl) rfl ?_
  refine aB rfl rfl (indexAddr aa rfl rfl rfl rfl rfl rfl (by decide) rfl rfl) rfl ?_
  refine aB rfl rfl (ev aa rfl) rfl ?_
  refine aB rfl rfl (ak rfl rfl rfl (gB ..) rfl) rfl ?_
  iterate 3 refine an (ev aa rfl) rfl ?_
  refine CH.nil ?_
  refine qs (W.ret (au (ah (QF.aq trivial rfl ?_))))
  simp only[norm,bk,az,eo,both] at *;simp_all <;> grind
 refine W.region ?_
 iterate 2 refine pE rfl ?_
 refine WO.nil (qs (ao rfl (fun h49=>?_) (fun h49=>?_)))
 ·
  obtain⟨a,b,rfl⟩:=bW (l:=ks) (by rw[hl];apply hk.2.2.2.1 <;> grind)
  refine W.seq (W.be aa (by kernel_rfl) ?_)
  refine an (ev aa rfl) rfl ?_
  refine an (indexAddr aa rfl rfl rfl rfl rfl rfl (Int.le_refl _) rfl rfl) rfl ?_
  refine an (ev aa rfl) rfl ?_
  refine an (ev aa rfl) rfl ?_
  refine an (indexAddr aa rfl rfl rfl rfl rfl rfl (by decide) rfl rfl) rfl ?_
  refine an (ev aa rfl) rfl ?_
  refine an (ak rfl rfl rfl (gB ..) rfl) rfl ?_
  refine an (ev aa rfl) rfl ?_
  refine gf rfl rfl (fun _=>?_) (fun _=>?_)
  ·
   iterate 7 refine bU rfl rfl rfl rfl ?_
   iterate 3 refine an (ev aa rfl) rfl ?_
   refine CH.nil ?_
   refine qs (W.ret (au (ah (QF.aq trivial rfl ?_))))
   simp only[norm,bk,az,eo,both] at *;simp_all <;> grind
  refine aB rfl rfl (ev aa rfl) rfl ?_
  refine aB rfl rfl (indexAddr aa rfl rfl rfl rfl rfl rfl (Int.le_refl _) rfl rfl) rfl ?_
  refine aB rfl rfl (ev aa rfl) rfl ?_
  refine aB rfl rfl (ev aa rfl) rfl ?_
  refine aB rfl rfl (indexAddr aa rfl rfl rfl rfl rfl rfl (by decide) rfl rfl) rfl ?_
  refine aB rfl rfl (ev aa rfl) rfl ?_
  refine aB rfl rfl (ak rfl rfl rfl (gB ..) rfl) rfl ?_
  iterate 3 refine an (ev aa rfl) rfl ?_
  refine CH.nil ?_
  refine qs (W.ret (au (ah (QF.aq trivial rfl ?_))))
  simp only[norm,bk,az,eo,both] at *;simp_all <;> grind
 refine W.seq (W.region ?_)
 iterate 2 refine pE rfl ?_
 refine WO.nil (qs (ao rfl (fun h68=>?_) (fun h68=>?_)))
 ·
  have hc:=hk.2.2.1 (by simpa using h68)
  refine W.seq (W.region (pE rfl (pE rfl (pE rfl (pu (ak rfl rfl rfl (xV e.name ks (by rw[hl];exact hc.1) hc.2) rfl) rfl ?_)))))
  iterate 4 refine pE rfl ?_
  refine WO.nil (qs (W.ret (au (ah (QF.aq trivial rfl ?_)))))
  simp only[norm,bk,az,eo,both] at *;simp_all <;> grind
 obtain⟨a,b,rfl⟩:=bW (l:=ks) (by rw[hl];apply hk.2.2.2.1 <;> grind)
 refine W.skip (aX (qs (W.seq (W.be aa (by kernel_rfl) ?_))))
 refine an (ev aa rfl) rfl ?_
 refine an (indexAddr aa rfl rfl rfl rfl rfl rfl (Int.le_refl _) rfl rfl) rfl ?_
 refine an (ev aa rfl) rfl ?_
 refine an (ev aa rfl) rfl ?_
 refine an (indexAddr aa rfl rfl rfl rfl rfl rfl (by decide) rfl rfl) rfl ?_
 refine an (ev aa rfl) rfl ?_
 refine an (ak rfl rfl rfl (gB ..) rfl) rfl ?_
 iterate 2 refine an (ev aa rfl) rfl ?_
 refine CH.nil ?_
 refine qs (W.ret (QF.aq trivial rfl ?_))
 simp only[norm,bk,az,eo,both] at *;simp_all <;> grind
end Go.Proofs.YtjenenllmjlimaaGreat
namespace Go.Proofs.YtjenenllmjlimaaGreat
open Go.Ab Go.Tb
set_option maxRecDepth 10000
attribute [local irreducible] W WO Pu QS QB QL QF QV b7 CH QE
theorem uc (cols:List Col):∀ (e:Ex),cJ e=0→ax Tryz.prog 63 [.d (.sl (cols.map Col.c)),.ag e.c] (.tup [.d (.v (.int .i64 (cX cols e).1)),.d (.v (.int .i64 (cX cols e).2))]) 0:=by
 refine Ex.ind fun e ih=>?_
 intro hv
 have hkv:=mF (mP hv)
 have hq:=xF cols e
 refine ax.aT (n:=109) (ts:=[4,5]) Tryz.func63 (by kernel_rfl) rfl Tryz.ntmps63 Tryz.results63 rfl rfl fun C hC hG=>?_
 refine W.seq (W.region (br rfl rfl rfl ?_))
 iterate 2 refine pE rfl ?_
 refine WO.nil (qs (W.seq (W.region (pE rfl (WO.nil (qs ?_))))))
 iterate 2 refine W.seq ?_
 refine W.region (pE rfl (pE rfl ?_))
 iterate 2 refine pE rfl ?_
 refine WO.nil (qs (W.block (aG (d:=6) rfl rfl ?_)))
 refine W.len (t:=13) rfl rfl (fun hlen=>?_)
 try simp only[List.length_map,Ex.aF] at hlen
 refine W.aS (ι:={x:Nat×List Int // match x with | (k,ks)=>k≤e.kids.length∧fG cols (e.kids.drop k) ks=fG cols e.kids []∧ks.length=k})
  (fun x=>match x.1 with | (k,ks)=>[(3,.ptr 0 0),(6,.own 1 (ks.map ic)),(15,.d (.v (.int .i64 ((k:Nat):Int))))]) [(0,_),(13,_),(14,_)]
  (fun x=>match x.1 with | (k,ks)=>[]) [(0,_)] [1] 2 (fun x=>match x.1 with | (k,ks)=>e.kids.length - k)
  [0,1] ⟨(0,[]),?_⟩ rfl ?_ ⟨rfl,rfl,rfl,rfl,rfl,rfl,trivial⟩ ?_ ⟨rfl,rfl,trivial⟩ rfl ?_
 · exact⟨Nat.zero_le _,rfl,rfl⟩
 · repeat' first | exact trivial | refine⟨rfl,?_⟩
 · repeat' exact trivial
 rintro⟨⟨k,ks⟩,hk,hI,h2⟩
 show W _ _ _ _ _ ⟨[(3,.ptr 0 0),(6,.own 1 (ks.map ic)),(15,.d (.v (.int .i64 ((k:Nat):Int)))),(0,_),(13,_),(14,_)],[(0,_)],[1],2⟩
 refine W.seq (W.region (pE rfl (WO.nil (qs (W.seq (a9 (l:=e.kids) (k:=k) rfl (by simp[Ex.aF,aL]) hk (fun x hx hd hlt=>?_) (fun he hd=>?_)))))))
 ·
  rw[hd] at hI
  simp only[fG] at hI
  have hmem:=List.mem_of_getElem? hx
  have hne:e.kids≠[]:=by rintro h;rw[h] at hmem;simp at hmem
  refine W.skip (qs (W.seq (W.block (W.seq (W.region (pu (indexAddr aa rfl rfl rfl rfl rfl rfl (Int.natCast_nonneg _) (Ex.ld hx) rfl) rfl ?_))))))
  refine pE rfl (a8 aa rfl rfl rfl (aR aa rfl rfl rfl rfl rfl rfl rfl rfl (WO.nil (qs (W.seq (W.region (pE rfl (pE rfl (pu (ak rfl rfl rfl (ih x hmem (sA hv hmem)) rfl) rfl ?_)))))))))
  iterate 5 refine pE rfl ?_
  refine WO.nil (qs ?_)
  iterate 2 refine W.seq ?_
  refine W.region ?_
  iterate 2 refine pE rfl ?_
  refine WO.nil (qs (ao rfl (fun h26=>?_) (fun h26=>?_)))
  ·
   rw[if_pos (by simpa using h26)] at hI
   refine W.seq (W.region ?_)
   iterate 3 refine pE rfl ?_
   refine WO.nil (qs (W.ret (ah (au (ah (aZ (au (ah (QF.aq trivial rfl ?_)))))))))
   rw[hq,←hI]
   simp only[norm,bk,az]
   grind
  rw[if_neg (by simpa using h26)] at hI
  refine W.skip (qs (W.region ?_))
  iterate 2 refine pE rfl ?_
  refine pu (aI aa rfl rfl rfl rfl rfl rfl rfl rfl rfl) rfl ?_
  refine bJ aa rfl rfl rfl rfl rfl rfl rfl rfl rfl rfl (fun _=>rfl) (by show(ks.length+1)*8≤_;omega) ?_
  refine pE rfl (WO.nil (aX (qs (W.region ?_))))
  iterate 2 refine pE rfl ?_
  refine WO.nil (W.aU [0,3] ⟨(k+1,ks++[(cX cols x).1]),?_⟩ ?_ rfl ?_ ⟨rfl,rfl,rfl,rfl,rfl,rfl,trivial⟩ ?_ ⟨rfl,rfl,trivial⟩ rfl)
  · exact⟨hlt,hI,by simp[h2]⟩
  · dsimp only;omega
  · repeat' first | exact trivial | refine⟨rfl,?_⟩ | refine⟨aD (by assumption) (by assumption),?_⟩
  repeat' exact trivial
 rw[hd] at hI
 simp only[fG] at hI
 have hkl:ks.length=e.kids.length:=by omega
 refine W.exit (aN (aQ (aO (qs ?_))))
 iterate 2 refine W.seq ?_
 refine W.region (pE rfl (pE rfl (WO.nil (qs (W.block (W.seq (W.region ?_)))))))
 iterate 2 refine pE rfl ?_
 refine WO.nil (qs (ao rfl (fun h35=>?_) (fun h35=>?_)))
 ·
  refine W.seq (W.region ?_)
  iterate 2 refine pE rfl ?_
  refine pE rfl ?_
  iterate 2 refine pE rfl ?_
  refine WO.nil (qs (W.ret (au (ah (QF.aq trivial rfl ?_)))))
  rw[hq,←hI]
  clear hq hI ih
  simp only[norm,bk,az,aY] at *
  rcases dM (ks:=ks) (by omega) with rfl | ⟨a,rfl⟩ | ⟨a,b,rfl⟩ <;> simp_all[eo,cY,both] <;> grind
 refine W.seq (W.region ?_)
 iterate 2 refine pE rfl ?_
 refine WO.nil (qs (ao rfl (fun h40=>?_) (fun h40=>?_)))
 ·
  refine W.seq (W.region ?_)
  iterate 2 refine pE rfl ?_
  refine pE rfl (pu (ak rfl rfl rfl (gJ ..) rfl) rfl ?_)
  refine pE rfl (WO.nil (qs ?_))
  iterate 2 refine W.seq ?_
  refine W.region ?_
  iterate 2 refine pE rfl ?_
  refine WO.nil (qs (ao rfl (fun h47=>?_) (fun h47=>?_)))
  ·
   have h5:=ee (of_decide_eq_true h47)
   refine W.seq (W.region ?_)
   iterate 2 refine pE rfl ?_
   refine WO.nil (qs (W.ret (ah (au (ah (QF.aq trivial rfl ?_))))))
   rw[hq,←hI]
   clear hq hI ih
   simp only[norm,bk,az,aY] at *
   rcases dM (ks:=ks) (by omega) with rfl | ⟨a,rfl⟩ | ⟨a,b,rfl⟩ <;> simp_all[eo,cY,both] <;> grind
  obtain⟨i,c,h3,h4,h5,h6⟩:=ek (of_decide_eq_false h47)
  refine W.skip (qs (W.seq (W.region ?_)))
  iterate 2 refine pE rfl ?_
  refine pu (indexAddr aa rfl rfl rfl rfl rfl rfl (i:=idx _) (by rw[h3];exact Int.natCast_nonneg _) (by rw[h3];exact aE h4) rfl) rfl ?_
  refine pE rfl (pE rfl ?_)
  iterate 2 refine pE rfl ?_
  refine WO.nil (qs (W.ret (au (ah (QF.aq trivial rfl ?_)))))
  rw[hq,←hI]
  clear hq hI ih
  simp only[norm,bk,az,aY] at *
  rcases dM (ks:=ks) (by omega) with rfl | ⟨a,rfl⟩ | ⟨a,b,rfl⟩ <;> simp_all[eo,cY,both] <;> grind
 iterate 2 refine W.seq ?_
 refine W.region ?_
 iterate 2 refine pE rfl ?_
 refine WO.nil (qs (ao rfl (fun h53=>?_) (fun h53=>?_)))
 ·
  refine W.skip (qs (W.cS rfl (W.seq (W.region (pE rfl (pu (ak rfl rfl rfl (fc ..) rfl) rfl ?_))))))
  refine pu (ak rfl rfl rfl (dv ..) rfl) rfl ?_
  iterate 4 refine pE rfl ?_
  refine WO.nil (qs (W.ret (au (ah (QF.aq trivial rfl ?_)))))
  rw[hq,←hI]
  clear hq hI ih
  simp only[norm,bk,az,aY] at *
  rcases dM (ks:=ks) (by omega) with rfl | ⟨a,rfl⟩ | ⟨a,b,rfl⟩ <;> simp_all[eo,cY,both] <;> grind
 refine W.seq (W.region ?_)
 iterate 2 refine pE rfl ?_
 refine WO.nil (qs (ao rfl (fun h53=>?_) (fun h53=>?_)))
 ·
  refine W.skip (qs (W.cS rfl (W.seq (W.region (pE rfl (pu (ak rfl rfl rfl (fc ..) rfl) rfl ?_))))))
  refine pu (ak rfl rfl rfl (dv ..) rfl) rfl ?_
  iterate 4 refine pE rfl ?_
  refine WO.nil (qs (W.ret (au (ah (QF.aq trivial rfl ?_)))))
  rw[hq,←hI]
  clear hq hI ih
  simp only[norm,bk,az,aY] at *
  rcases dM (ks:=ks) (by omega) with rfl | ⟨a,rfl⟩ | ⟨a,b,rfl⟩ <;> simp_all[eo,cY,both] <;> grind
 refine W.region ?_
 iterate 2 refine pE rfl ?_
 refine WO.nil (qs (ao rfl (fun h53=>?_) (fun h53=>?_)))
 ·
  refine W.seq (W.region (pE rfl (pu (ak rfl rfl rfl (fc ..) rfl) rfl ?_)))
  refine pu (ak rfl rfl rfl (dv ..) rfl) rfl ?_
  iterate 4 refine pE rfl ?_
  refine WO.nil (qs (W.ret (au (ah (QF.aq trivial rfl ?_)))))
  rw[hq,←hI]
  clear hq hI ih
  simp only[norm,bk,az,aY] at *
  rcases dM (ks:=ks) (by omega) with rfl | ⟨a,rfl⟩ | ⟨a,b,rfl⟩ <;> simp_all[eo,cY,both] <;> grind
 iterate 2 refine W.seq ?_
 refine W.region ?_
 iterate 2 refine pE rfl ?_
 refine WO.nil (qs (ao rfl (fun h62=>?_) (fun h62=>?_)))
 ·
  have h2l:ks.length=2:=by rw[hkl];apply hkv.2.2.2.1 <;> grind
  refine W.skip (qs (W.cS rfl (W.seq (W.be aa (by kernel_rfl) ?_))))
  refine an (ev aa rfl) rfl ?_
  refine an (indexAddr aa rfl rfl rfl rfl rfl rfl (Int.le_refl _) (yT (by omega)) rfl) rfl ?_
  refine an (ev aa rfl) rfl ?_
  refine an (ev aa rfl) rfl ?_
  refine an (indexAddr aa rfl rfl rfl rfl rfl rfl (by decide) (yH (by omega)) rfl) rfl ?_
  refine an (ev aa rfl) rfl ?_
  refine an (ak rfl rfl rfl (kT ..) rfl) rfl ?_
  refine an (ev aa rfl) rfl ?_
  refine gf rfl rfl (fun _=>?_) (fun _=>?_)
  ·
   iterate 7 refine bU rfl rfl rfl rfl ?_
   refine an (ev aa rfl) rfl ?_
   refine an (ak rfl rfl rfl (dv ..) rfl) rfl ?_
   iterate 4 refine an (ev aa rfl) rfl ?_
   refine CH.nil ?_
   refine qs (W.ret (au (ah (QF.aq trivial rfl ?_))))
   rw[hq,←hI]
   clear hq hI ih
   simp only[norm,bk,az,aY] at *
   rcases dM (ks:=ks) (by omega) with rfl | ⟨a,rfl⟩ | ⟨a,b,rfl⟩ <;> simp_all[eo,cY,both] <;> grind
  refine aB rfl rfl (ev aa rfl) rfl ?_
  refine aB rfl rfl (indexAddr aa rfl rfl rfl rfl rfl rfl (by decide) (yH (by omega)) rfl) rfl ?_
  refine aB rfl rfl (ev aa rfl) rfl ?_
  refine aB rfl rfl (ev aa rfl) rfl ?_
  refine aB rfl rfl (indexAddr aa rfl rfl rfl rfl rfl rfl (Int.le_refl _) (yT (by omega)) rfl) rfl ?_
  refine aB rfl rfl (ev aa rfl) rfl ?_
  refine aB rfl rfl (ak rfl rfl rfl (kT ..) rfl) rfl ?_
  refine an (ev aa rfl) rfl ?_
  refine an (ak rfl rfl rfl (dv ..) rfl) rfl ?_
  iterate 4 refine an (ev aa rfl) rfl ?_
  refine CH.nil ?_
  refine qs (W.ret (au (ah (QF.aq trivial rfl ?_))))
  rw[hq,←hI]
  clear hq hI ih
  simp only[norm,bk,az,aY] at *
  rcases dM (ks:=ks) (by omega) with rfl | ⟨a,rfl⟩ | ⟨a,b,rfl⟩ <;> simp_all[eo,cY,both] <;> grind
 refine W.region ?_
 iterate 2 refine pE rfl ?_
 refine WO.nil (qs (ao rfl (fun h62=>?_) (fun h62=>?_)))
 ·
  have h2l:ks.length=2:=by rw[hkl];apply hkv.2.2.2.1 <;> grind
  refine W.seq (W.be aa (by kernel_rfl) ?_)
  refine an (ev aa rfl) rfl ?_
  refine an (indexAddr aa rfl rfl rfl rfl rfl rfl (Int.le_refl _) (yT (by omega)) rfl) rfl ?_
  refine an (ev aa rfl) rfl ?_
  refine an (ev aa rfl) rfl ?_
  refine an (indexAddr aa rfl rfl rfl rfl rfl rfl (by decide) (yH (by omega)) rfl) rfl ?_
  refine an (ev aa rfl) rfl ?_
  refine an (ak rfl rfl rfl (kT ..) rfl) rfl ?_
  refine an (ev aa rfl) rfl ?_
  refine gf rfl rfl (fun _=>?_) (fun _=>?_)
  ·
   iterate 7 refine bU rfl rfl rfl rfl ?_
   refine an (ev aa rfl) rfl ?_
   refine an (ak rfl rfl rfl (dv ..) rfl) rfl ?_
   iterate 4 refine an (ev aa rfl) rfl ?_
   refine CH.nil ?_
   refine qs (W.ret (au (ah (QF.aq trivial rfl ?_))))
   rw[hq,←hI]
   clear hq hI ih
   simp only[norm,bk,az,aY] at *
   rcases dM (ks:=ks) (by omega) with rfl | ⟨a,rfl⟩ | ⟨a,b,rfl⟩ <;> simp_all[eo,cY,both] <;> grind
  refine aB rfl rfl (ev aa rfl) rfl ?_
  refine aB rfl rfl (indexAddr aa rfl rfl rfl rfl rfl rfl (by decide) (yH (by omega)) rfl) rfl ?_
  refine aB rfl rfl (ev aa rfl) rfl ?_
  refine aB rfl rfl (ev aa rfl) rfl ?_
  refine aB rfl rfl (indexAddr aa rfl rfl rfl rfl rfl rfl (Int.le_refl _) (yT (by omega)) rfl) rfl ?_
  refine aB rfl rfl (ev aa rfl) rfl ?_
  refine aB rfl rfl (ak rfl rfl rfl (kT ..) rfl) rfl ?_
  refine an (ev aa rfl) rfl ?_
  refine an (ak rfl rfl rfl (dv ..) rfl) rfl ?_
  iterate 4 refine an (ev aa rfl) rfl ?_
  refine CH.nil ?_
  refine qs (W.ret (au (ah (QF.aq trivial rfl ?_))))
  rw[hq,←hI]
  clear hq hI ih
  simp only[norm,bk,az,aY] at *
  rcases dM (ks:=ks) (by omega) with rfl | ⟨a,rfl⟩ | ⟨a,b,rfl⟩ <;> simp_all[eo,cY,both] <;> grind
 iterate 2 refine W.seq ?_
 refine W.region ?_
 iterate 2 refine pE rfl ?_
 refine WO.nil (qs (ao rfl (fun h84=>?_) (fun h84=>?_)))
 ·
  refine W.skip (qs (W.cS rfl (W.seq (W.region (pE rfl (pu (ak rfl rfl rfl (fc ..) rfl) rfl ?_))))))
  refine pE rfl (xE rfl rfl (fun _=>?_) (fun _=>?_))
  ·
   iterate 2 refine ar rfl rfl rfl rfl ?_
   refine pE rfl (pu (ak rfl rfl rfl (dv ..) rfl) rfl ?_)
   iterate 4 refine pE rfl ?_
   refine WO.nil (qs (W.ret (au (ah (QF.aq trivial rfl ?_)))))
   rw[hq,←hI]
   clear hq hI ih
   simp only[norm,bk,az,aY] at *
   rcases dM (ks:=ks) (by omega) with rfl | ⟨a,rfl⟩ | ⟨a,b,rfl⟩ <;> simp_all[eo,cY,both] <;> grind
  refine ab rfl rfl (pE rfl (ab rfl rfl (pu (ak rfl rfl rfl (fc ..) rfl) rfl ?_)))
  refine pE rfl (pu (ak rfl rfl rfl (dv ..) rfl) rfl ?_)
  iterate 4 refine pE rfl ?_
  refine WO.nil (qs (W.ret (au (ah (QF.aq trivial rfl ?_)))))
  rw[hq,←hI]
  clear hq hI ih
  simp only[norm,bk,az,aY] at *
  rcases dM (ks:=ks) (by omega) with rfl | ⟨a,rfl⟩ | ⟨a,b,rfl⟩ <;> simp_all[eo,cY,both] <;> grind
 refine W.region ?_
 iterate 2 refine pE rfl ?_
 refine WO.nil (qs (ao rfl (fun h84=>?_) (fun h84=>?_)))
 ·
  refine W.seq (W.region (pE rfl (pu (ak rfl rfl rfl (fc ..) rfl) rfl ?_)))
  refine pE rfl (xE rfl rfl (fun _=>?_) (fun _=>?_))
  ·
   iterate 2 refine ar rfl rfl rfl rfl ?_
   refine pE rfl (pu (ak rfl rfl rfl (dv ..) rfl) rfl ?_)
   iterate 4 refine pE rfl ?_
   refine WO.nil (qs (W.ret (au (ah (QF.aq trivial rfl ?_)))))
   rw[hq,←hI]
   clear hq hI ih
   simp only[norm,bk,az,aY] at *
   rcases dM (ks:=ks) (by omega) with rfl | ⟨a,rfl⟩ | ⟨a,b,rfl⟩ <;> simp_all[eo,cY,both] <;> grind
  refine ab rfl rfl (pE rfl (ab rfl rfl (pu (ak rfl rfl rfl (fc ..) rfl) rfl ?_)))
  refine pE rfl (pu (ak rfl rfl rfl (dv ..) rfl) rfl ?_)
  iterate 4 refine pE rfl ?_
  refine WO.nil (qs (W.ret (au (ah (QF.aq trivial rfl ?_)))))
  rw[hq,←hI]
  clear hq hI ih
  simp only[norm,bk,az,aY] at *
  rcases dM (ks:=ks) (by omega) with rfl | ⟨a,rfl⟩ | ⟨a,b,rfl⟩ <;> simp_all[eo,cY,both] <;> grind
 refine W.seq (W.region ?_)
 iterate 2 refine pE rfl ?_
 refine WO.nil (qs (ao rfl (fun h96=>?_) (fun h96=>?_)))
 ·
  have hc:=hkv.2.2.1 (by simpa using h96)
  refine W.seq (W.region (pE rfl (pE rfl (pE rfl (pu (ak rfl rfl rfl (yW e.name ks (by rw[hkl];exact hc.1) hc.2) rfl) rfl ?_)))))
  iterate 4 refine pE rfl ?_
  refine WO.nil (qs (W.ret (au (ah (QF.aq trivial rfl ?_)))))
  rw[hq,←hI]
  clear hq hI ih
  simp only[norm,bk,az,aY] at *
  rcases dM (ks:=ks) (by omega) with rfl | ⟨a,rfl⟩ | ⟨a,b,rfl⟩ <;> simp_all[eo,cY,both] <;> grind
 refine W.skip (aX (qs (W.seq (W.region (pE rfl (pu (ak rfl rfl rfl (fc ..) rfl) rfl ?_))))))
 refine pu (ak rfl rfl rfl (dv ..) rfl) rfl ?_
 iterate 4 refine pE rfl ?_
 refine WO.nil (qs (W.ret (QF.aq trivial rfl ?_)))
 rw[hq,←hI]
 by_cases h4:e.op=4
 ·
  obtain⟨a,rfl⟩:=nB (l:=ks) (by rw[hkl];exact hkv.2.1 (.inr h4))
  clear hq hI ih hkv hkl h2 hk hd
  simp only[norm,bk,az,eo,cY,both,List.getD_cons_zero,List.all_cons,List.all_nil,Bool.and_true,h4]
  simp
 have h2l:ks.length=2:=by rw[hkl];apply hkv.2.2.2.1 <;> grind
 obtain⟨a,b,rfl⟩:=bW h2l
 clear hq hI ih hkv hkl h2l h2 hk hd
 simp only[norm,bk,az,eo,cY,both,List.getD_cons_zero,List.getD_cons_succ,List.all_cons,List.all_nil,Bool.and_true]
 simp_all
theorem wv (cols:List Col):∀ (e:Ex),cJ e=0→ax Tryz.prog 118 [.d (.sl (cols.map Col.c)),.ag e.c] (.tup [.d (.v (.int .i64 (cX cols e).1)),.d (.v (.int .i64 (cX cols e).2))]) 0:=by
 refine Ex.ind fun e ih=>?_
 intro hv
 have hkv:=mF (mP hv)
 have hq:=xF cols e
 refine ax.aT (n:=66) (ts:=[4,5]) Tryz.func118 (by kernel_rfl) rfl Tryz.ntmps118 Tryz.results118 rfl rfl fun C hC hG=>?_
 refine W.seq (W.region (br rfl rfl rfl ?_))
 iterate 2 refine pE rfl ?_
 refine WO.nil (qs ?_)
 iterate 2 refine W.seq ?_
 refine W.region (pE rfl (pE rfl (pE rfl (WO.nil (qs (ao rfl (fun h15=>?_) (fun h15=>?_)))))))
 ·
  refine W.seq (W.region ?_)
  iterate 2 refine pE rfl ?_
  refine pE rfl ?_
  iterate 2 refine pE rfl ?_
  refine WO.nil (qs (W.ret (ah (QF.aq trivial rfl ?_))))
  rw[hq];simp only[norm,bk,az];simp_all
 refine W.skip (qs ?_)
 iterate 2 refine W.seq ?_
 refine W.region (pE rfl (pE rfl (pE rfl (WO.nil (qs (ao rfl (fun h21=>?_) (fun h21=>?_)))))))
 ·
  refine W.seq (W.region ?_)
  iterate 2 refine pE rfl ?_
  refine pE rfl (pu (ak rfl rfl rfl (gM ..) rfl) rfl ?_)
  refine pE rfl (WO.nil (qs ?_))
  iterate 2 refine W.seq ?_
  refine W.region ?_
  iterate 2 refine pE rfl ?_
  refine WO.nil (qs (ao rfl (fun h27=>?_) (fun h27=>?_)))
  ·
   have h5:=ee (of_decide_eq_true h27)
   refine W.seq (W.region ?_)
   iterate 2 refine pE rfl ?_
   refine WO.nil (qs (W.ret (ah (ah (QF.aq trivial rfl ?_)))))
   rw[hq];simp only[norm,bk,az,aY,h5];simp_all
  obtain⟨i,c,h3,h4,h5,h6⟩:=ek (of_decide_eq_false h27)
  refine W.skip (qs (W.seq (W.region ?_)))
  iterate 2 refine pE rfl ?_
  refine pu (indexAddr aa rfl rfl rfl rfl rfl rfl (i:=idx _) (by rw[h3];exact Int.natCast_nonneg _) (by rw[h3];exact aE h4) rfl) rfl ?_
  refine pE rfl (pE rfl ?_)
  iterate 2 refine pE rfl ?_
  refine WO.nil (qs (W.ret (ah (QF.aq trivial rfl ?_))))
  rw[hq];simp only[norm,bk,az,aY];simp_all
 refine W.skip (qs (W.seq (W.region (pE rfl (WO.nil (qs ?_))))))
 iterate 2 refine W.seq ?_
 refine W.region (pE rfl (WO.nil (qs (W.block (gy (g:=0) (j:=5) rfl rfl (fun hlen=>?_))))))
 rw[Ex.aF] at hlen
 refine aG (d:=7) rfl rfl ?_
 refine W.aS (ι:={x:Nat×List Int // match x with | (k,ks)=>k≤e.kids.length∧fG cols (e.kids.drop k) ks=fG cols e.kids []∧ks.length=k})
  (fun x=>match x.1 with | (k,ks)=>[(3,.ptr 0 0),(7,.own 1 (ks.map ic)),(8,.d (.v (.int .i64 ((k:Nat):Int))))]) [(0,_)]
  (fun x=>match x.1 with | (k,ks)=>[]) [(0,_)] [1] 2 (fun x=>match x.1 with | (k,ks)=>e.kids.length - k)
  [0,1] ⟨(0,[]),?_⟩ rfl ?_ ⟨rfl,rfl,trivial⟩ ?_ ⟨rfl,rfl,trivial⟩ rfl ?_
 · exact⟨Nat.zero_le _,rfl,rfl⟩
 · repeat' first | exact trivial | refine⟨rfl,?_⟩
 · repeat' exact trivial
 rintro⟨⟨k,ks⟩,hk,hI,h2⟩
 show W _ _ _ _ _ ⟨[(3,.ptr 0 0),(7,.own 1 (ks.map ic)),(8,.d (.v (.int .i64 ((k:Nat):Int)))),(0,_)],[(0,_)],[1],2⟩
 iterate 2 refine W.seq ?_
 refine W.region ?_
 iterate 2 refine pE rfl ?_
 refine pE rfl ?_
 iterate 2 refine pE rfl ?_
 refine WO.nil (qs (a9 (l:=e.kids) (k:=k) rfl (by simp[Ex.aF,aL]) hk (fun x hx hd hlt=>?_) (fun he hd=>?_)))
 ·
  rw[hd] at hI
  simp only[fG] at hI
  have hmem:=List.mem_of_getElem? hx
  have hne:e.kids≠[]:=by rintro h;rw[h] at hmem;simp at hmem
  refine W.skip (qs (W.seq (W.block (W.seq (W.region ?_)))))
  iterate 2 refine pE rfl ?_
  refine pE rfl (pE rfl (pu (indexAddr aa rfl rfl rfl rfl rfl rfl (Int.natCast_nonneg _) (Ex.ld hx) rfl) rfl ?_))
  refine pE rfl (pu (ak rfl rfl rfl (ih x hmem (sA hv hmem)) rfl) rfl ?_)
  iterate 5 refine pE rfl ?_
  refine WO.nil (qs ?_)
  iterate 2 refine W.seq ?_
  refine W.region ?_
  iterate 2 refine pE rfl ?_
  refine WO.nil (qs (ao rfl (fun h51=>?_) (fun h51=>?_)))
  ·
   rw[if_pos (by simpa using h51)] at hI
   refine W.seq (W.region ?_)
   iterate 3 refine pE rfl ?_
   refine WO.nil (qs (W.ret (ah (au (ah (aZ (au (ah (QF.aq trivial rfl ?_)))))))))
   rw[hq,←hI]
   simp only[norm,bk,az]
   grind
  rw[if_neg (by simpa using h51)] at hI
  refine W.skip (qs (W.region ?_))
  iterate 2 refine pE rfl ?_
  refine pu (aI aa rfl rfl rfl rfl rfl rfl rfl rfl rfl) rfl ?_
  refine bJ aa rfl rfl rfl rfl rfl rfl rfl rfl rfl rfl (fun _=>rfl) (by show(ks.length+1)*8≤_;omega) ?_
  refine pE rfl (WO.nil (aX (qs (W.region ?_))))
  iterate 3 refine pE rfl ?_
  refine WO.nil (W.aU [0,2] ⟨(k+1,ks++[(cX cols x).1]),?_⟩ ?_ rfl ?_ ⟨rfl,rfl,trivial⟩ ?_ ⟨rfl,rfl,trivial⟩ rfl)
  · exact⟨hlt,hI,by simp[h2]⟩
  · dsimp only;omega
  · repeat' first | exact trivial | refine⟨rfl,?_⟩ | refine⟨aD (by assumption) (by assumption),?_⟩
  repeat' exact trivial
 rw[hd] at hI
 simp only[fG] at hI
 have hkl:ks.length=e.kids.length:=by omega
 refine W.exit (aN (aQ (aO (qs (W.seq (W.region (pE rfl (pE rfl (pu (ak rfl rfl rfl (uw e ks (mP hv) hkl (of_decide_eq_false h15) (of_decide_eq_false h21)) rfl) rfl ?_)))))))))
 iterate 5 refine pE rfl ?_
 refine WO.nil (qs ?_)
 iterate 2 refine W.seq ?_
 refine W.region ?_
 iterate 2 refine pE rfl ?_
 refine WO.nil (qs (ao rfl (fun h64=>?_) (fun h64=>?_)))
 ·
  refine W.seq (W.region ?_)
  iterate 2 refine pE rfl ?_
  refine WO.nil (qs (W.ret (ah (QF.aq trivial rfl ?_))))
  rw[hq,←hI]
  clear hq hI ih hkv hkl h2 hk hd
  simp only[norm,bk,az,cY]
  simp_all
 refine W.skip (qs (W.seq (W.region ?_)))
 iterate 3 refine pE rfl ?_
 refine WO.nil (qs (W.ret (QF.aq trivial rfl ?_)))
 rw[hq,←hI]
 clear hq hI ih hkv hkl h2 hk hd
 simp only[norm,bk,az,cY]
 simp_all
theorem sg (cols:List Col) (e:Ex):ax Tryz.prog 76 [.d (.sl (cols.map Col.c)),.ag e.c] (.tup [.d (.v (.int .i64 (lM cols e).1)),.d (.v (.int .i64 (lM cols e).2))]) 0:=by
 refine ax.aT (n:=17) (ts:=[4,5]) Tryz.func76 (by kernel_rfl) rfl Tryz.ntmps76 Tryz.results76 rfl rfl fun C hC hG=>?_
 refine W.seq (W.region (br rfl rfl rfl ?_))
 iterate 2 refine pE rfl ?_
 refine WO.nil (qs (W.seq (W.region (pE rfl (pu (ak rfl rfl rfl (pz ..) rfl) rfl ?_)))))
 refine pE rfl (WO.nil (qs ?_))
 iterate 2 refine W.seq ?_
 refine W.region ?_
 iterate 2 refine pE rfl ?_
 refine WO.nil (qs (ao rfl (fun h10=>?_) (fun h10=>?_)))
 ·
  refine W.seq (W.region ?_)
  iterate 3 refine pE rfl ?_
  refine WO.nil (qs (W.ret (ah (QF.aq trivial rfl ?_))))
  simp only[norm,bk,az,lM];simp_all
 have hv:=lC (by simpa using h10)
 refine W.skip (qs (W.seq (W.region (pE rfl (pE rfl (pu (ak rfl rfl rfl (wv cols e hv) rfl) rfl ?_))))))
 iterate 4 refine pE rfl ?_
 refine WO.nil (qs (W.ret (QF.aq trivial rfl ?_)))
 simp only[norm,bk,az,lM];simp_all
end Go.Proofs.YtjenenllmjlimaaGreat
namespace Go.Proofs.YtjenenllmjlimaaGreat
open Go.Ab Go.Tb
set_option maxRecDepth 10000
attribute [local irreducible] W WO Pu QS QB QL QF QV b7 CH QE
theorem tw (ks:List ByteArray) (s:ByteArray) (h:ks.length≤1000):dE Tryz.prog 133 [.ptr 0 0,.d (.v (.string s))] [[.own 1 (ks.map sc)]] 1 (.d (.v (.int .i64 (cv ks s)))) [[.own 1 ((fe ks s).map sc)]] 1:=by
 refine dE.fg aa (n:=24) (rs:=[.tmp 4]) Tryz.func133 (by kernel_rfl) rfl Tryz.ntmps133 Tryz.results133 rfl rfl fun C hC hG=>?_
 refine W.seq (W.region (pE rfl (WO.nil (qs ?_))))
 iterate 2 refine W.seq ?_
 refine W.region (pE rfl (pu (ak rfl rfl rfl (gz ..) rfl) rfl ?_))
 refine pE rfl (WO.nil (qs (ao rfl (fun h7=>?_) (fun h7=>?_))))
 ·
  refine W.seq (W.region (pE rfl (WO.nil (qs (W.ret (ah (ik.end aa [1] trivial rfl rfl rfl rfl ?_ ?_)))))))
  ·
   refine⟨?_,trivial⟩
   have h6:fe ks s=ks:=by grind[fe,cv]
   rw[h6];rfl
  simp only[bQ,az,A.d.injEq,D.v.injEq,Value.int.injEq,true_and];grind[cv]
 refine W.skip (qs ?_)
 iterate 2 refine W.seq ?_
 refine W.region ?_
 iterate 3 refine pE rfl ?_
 refine pE rfl (pE rfl (pu (ak rfl rfl rfl (eA ..) rfl) rfl ?_))
 refine WO.nil (qs (ao rfl (fun h13=>?_) (fun h13=>?_)))
 ·
  refine W.seq (W.region (pE rfl (WO.nil (qs (W.ret (ah (ik.end aa [1] trivial rfl rfl rfl rfl ?_ ?_)))))))
  ·
   refine⟨?_,trivial⟩
   have h6:fe ks s=ks:=by grind[fe,cv]
   rw[h6];rfl
  simp only[bQ,az,A.d.injEq,D.v.injEq,Value.int.injEq,true_and];grind[cv]
 refine W.skip (qs (W.seq (W.region ?_)))
 iterate 4 refine pE rfl ?_
 refine pE rfl (pE rfl (pu (aI aa rfl rfl rfl rfl rfl rfl rfl rfl rfl) rfl ?_))
 refine bJ aa rfl rfl rfl rfl rfl rfl rfl rfl rfl rfl (fun _=>rfl) (by show(ks.length+1)*16≤_;omega) ?_
 iterate 2 refine pE rfl ?_
 refine aR aa rfl rfl rfl rfl rfl rfl rfl rfl (WO.nil (qs (W.seq (W.region (pE rfl (WO.nil (qs (W.ret (ik.end aa [2] trivial rfl rfl rfl rfl ?_ ?_)))))))))
 ·
  refine⟨?_,trivial⟩
  have h6:fe ks s=ks++[s]:=by grind[fe,cv]
  rw[h6];rfl
 simp only[bQ,az,A.d.injEq,D.v.injEq,Value.int.injEq,true_and];grind[cv]
theorem pg (ks l:List ByteArray) (h:ks.length+l.length≤1000):dE Tryz.prog 134 [.ptr 0 0,.d (.sl (l.map sc))] [[.own 1 (ks.map sc)]] 1 (.d (.v (.int .i64 (bR ks l)))) [[.own 1 ((jP ks l).map sc)]] 1:=by
 refine dE.fg aa (n:=21) (rs:=[.tmp 4]) Tryz.func134 (by kernel_rfl) rfl Tryz.ntmps134 Tryz.results134 rfl rfl fun C hC hG=>?_
 refine W.seq (W.region (pE rfl (WO.nil (qs ?_))))
 iterate 2 refine W.seq ?_
 refine W.region ?_
 iterate 3 refine pE rfl ?_
 refine WO.nil (qs (W.block (W.len (t:=8) rfl rfl (fun hlen=>?_))))
 try simp only[List.length_map,Ex.aF] at hlen
 refine W.aS (ι:={x:Nat×List ByteArray // match x with | (k,ns)=>k≤l.length∧bR ns (l.drop k)=bR ks l∧jP ns (l.drop k)=jP ks l∧ns.length≤ks.length+k})
  (fun x=>match x.1 with | (k,ns)=>[(0,.ptr 0 0),(10,.d (.v (.int .i64 ((k:Nat):Int))))]) [(8,_),(9,_)]
  (fun x=>match x.1 with | (k,ns)=>[(0,[.own 1 (ns.map sc)])]) [] [1] 2 (fun x=>match x.1 with | (k,ns)=>l.length - k)
  [0,1] ⟨(0,ks),?_⟩ rfl ?_ ⟨rfl,rfl,rfl,rfl,trivial⟩ ?_ trivial rfl ?_
 · exact⟨Nat.zero_le _,rfl,rfl,Nat.le_refl _⟩
 · repeat' first | exact trivial | refine⟨rfl,?_⟩
 · repeat' first | exact trivial | refine⟨rfl,?_⟩
 rintro⟨⟨k,ns⟩,hk,hI,hJ,hL⟩
 show W _ _ _ _ _ ⟨[(0,.ptr 0 0),(10,.d (.v (.int .i64 ((k:Nat):Int)))),(8,_),(9,_)],[(0,[.own 1 (ns.map sc)])],[1],2⟩
 refine W.seq (W.region (pE rfl (WO.nil (qs (W.seq (a9 (l:=l) (k:=k) rfl (by simp[Ex.aF,aL]) hk (fun x hx hd hlt=>?_) (fun he hd=>?_)))))))
 ·
  rw[hd] at hI hJ
  simp only[bR,jP] at hI hJ
  refine W.skip (qs (W.seq (W.block (W.seq (W.region (pu (indexAddr aa rfl rfl rfl rfl rfl rfl (Int.natCast_nonneg _) (aE hx) rfl) rfl ?_))))))
  refine pE rfl (pE rfl (WO.nil (qs (W.seq (W.region ?_)))))
  iterate 2 refine pE rfl ?_
  refine kQ [0] [1] rfl rfl rfl rfl rfl ((tw ns x (by omega))) rfl rfl (by rfl) (by rfl) rfl rfl rfl rfl ?_
  refine pE rfl (WO.nil (qs (W.seq (W.region ?_))))
  iterate 2 refine pE rfl ?_
  refine WO.nil (qs (ao rfl (fun h18=>?_) (fun h18=>?_)))
  ·
   have h18:cv ns x≠0:=by simpa using h18
   rw[if_pos h18] at hI hJ
   refine W.seq (W.region ?_)
   iterate 2 refine pE rfl ?_
   refine WO.nil (qs (W.ret (au (ah (aZ (au (ah (ik.end aa [3] trivial rfl rfl rfl rfl ?_ ?_))))))))
   ·
    refine⟨?_,trivial⟩
    have hto:fe ns x=jP ks l:=by rw[←hJ];simp[fe,h18]
    rw[←hto];rfl
   rw[←hI];rfl
  have h18:cv ns x=0:=by simpa using h18
  rw[if_neg (by simp[h18])] at hI hJ
  have hto:fe ns x=ns++[x]:=by simp[fe,h18]
  refine W.skip (aX (qs (W.region ?_)))
  iterate 2 refine pE rfl ?_
  refine WO.nil (W.aU [0,3] ⟨(k+1,fe ns x),?_⟩ ?_ rfl ?_ ⟨rfl,rfl,rfl,rfl,trivial⟩ ?_ trivial rfl)
  ·
   refine⟨hlt,?_,?_,?_⟩
   · rw[hto];exact hI
   · rw[hto];exact hJ
   rw[hto];simp;omega
  · dsimp only;omega
  · repeat' first | exact trivial | refine⟨rfl,?_⟩ | refine⟨aD (by assumption) (by assumption),?_⟩
  repeat' first | exact trivial | refine⟨rfl,?_⟩
 rw[hd] at hI hJ
 simp only[bR,jP] at hI hJ
 refine W.exit (aN (aQ (aO (qs (W.seq (W.region (pE rfl (WO.nil (qs (W.ret (ik.end aa [1] trivial rfl rfl rfl rfl ?_ ?_)))))))))))
 ·
  refine⟨?_,trivial⟩
  rw[←hJ];rfl
 rw[←hI];rfl
theorem u0 (n m:Int):ax Tryz.prog 94 [.d (.v (.int .i64 n)),.d (.v (.int .i64 m))] (.d (.v (.int .i64 (du n m)))) 0:=by
 refine ax.aT (n:=12) (ts:=[4]) Tryz.func94 (by kernel_rfl) rfl Tryz.ntmps94 Tryz.results94 rfl rfl fun C hC hG=>?_
 refine W.seq (W.region (pE rfl (WO.nil (qs (W.seq (W.block (W.seq (W.region ?_))))))))
 iterate 4 refine pE rfl ?_
 refine WO.nil (qs (ao rfl (fun h5=>?_) (fun h5=>?_)))
 ·
  refine W.seq (W.region (pE rfl (WO.nil (qs (W.ret (au (ah (QF.aq trivial rfl ?_))))))))
  simp only[norm,az] at *;grind[du]
 refine W.seq (W.region ?_)
 iterate 3 refine pE rfl ?_
 refine WO.nil (qs (ao rfl (fun h9=>?_) (fun h9=>?_)))
 ·
  refine W.seq (W.region (pE rfl (WO.nil (qs (W.ret (au (ah (QF.aq trivial rfl ?_))))))))
  simp only[norm,az] at *;grind[du]
 refine W.skip (aX (qs (W.seq (W.region (pE rfl (WO.nil (qs (W.ret (QF.aq trivial rfl ?_)))))))))
 simp only[norm,az] at *;grind[du]
theorem kI (l:List ByteArray) (m:Int):ax Tryz.prog 97 [.d (.sl (l.map sc)),.d (.v (.int .i64 m))] (.d (.v (.int .i64 (cU l m)))) 0:=by
 refine ax.aT (n:=16) (ts:=[4]) Tryz.func97 (by kernel_rfl) rfl Tryz.ntmps97 Tryz.results97 rfl rfl fun C hC hG=>?_
 refine W.seq (W.region (pE rfl (WO.nil (qs ?_))))
 iterate 2 refine W.seq ?_
 refine W.region ?_
 iterate 3 refine pE rfl ?_
 refine pu (ak rfl rfl rfl (u0 ..) rfl) rfl ?_
 refine pE rfl (WO.nil (qs (W.seq (W.region ?_))))
 iterate 2 refine pE rfl ?_
 refine WO.nil (qs (ao rfl (fun h12=>?_) (fun h12=>?_)))
 ·
  refine W.seq (W.region ?_)
  iterate 2 refine pE rfl ?_
  refine WO.nil (qs (W.ret (ah (QF.aq trivial rfl ?_))))
  simp only[norm,az,back] at *;grind[cU]
 have h12:du l.length m=0:=by simpa using h12
 have hl16:l.length≤16:=by unfold du at h12;split at h12;omega;split at h12 <;> omega
 refine W.skip (qs (W.seq (W.region (a8 aa rfl rfl rfl (WO.nil (qs (W.seq (W.region (qm 0 0 rfl rfl rfl ?_)))))))))
 refine pE rfl (kQ [0] [1] rfl rfl rfl rfl rfl ((pg [] l (by simp;omega))) rfl rfl (by rfl) (by rfl) rfl rfl rfl rfl ?_)
 refine pE rfl (WO.nil (qs (W.ret (QF.aq trivial rfl ?_))))
 simp only[norm,az,back] at *;grind[cU]
end Go.Proofs.YtjenenllmjlimaaGreat
namespace Go.Proofs.YtjenenllmjlimaaGreat
open Go.Ab Go.Tb
set_option maxRecDepth 10000
attribute [local irreducible] W WO Pu QS QB QL QF QV b7 CH QE
theorem zu (e:Ex):ax Tryz.prog 130 [.ag e.c] (.d (.v (.bool (oS e)))) 0:=by
 refine ax.aT (n:=23) (ts:=[2]) Tryz.func130 (by kernel_rfl) rfl Tryz.ntmps130 Tryz.results130 rfl rfl fun C hC hG=>?_
 have hkl:=Ex.aF e
 refine W.seq (W.region (br rfl rfl rfl (pE rfl (WO.nil (qs (W.seq ?_))))))
 apply aC;(case hb=>rfl)
 ·
  refine pE rfl (pE rfl ?_)
  iterate 2 refine pE rfl ?_
  apply aw;(case hj=>rfl);(case hl=>rfl)
  ·
   refine ab rfl rfl (pE rfl (ab rfl rfl (pE rfl (ab rfl rfl ?_))))
   iterate 3 refine pE rfl ?_
   apply aw;(case hj=>rfl);(case hl=>rfl)
   ·
    refine ab rfl rfl (pE rfl (ab rfl rfl (pE rfl (ab rfl rfl (pu (build aa rfl rfl rfl rfl) rfl ?_)))))
    refine ab rfl rfl ?_
    iterate 3 refine pE rfl ?_
    apply aw;(case hj=>rfl);(case hl=>rfl)
    ·
     refine ab rfl rfl (pE rfl (ab rfl rfl (pE rfl (ab rfl rfl (pE rfl (ab rfl rfl ?_))))))
     iterate 3 refine pE rfl ?_
     refine WO.nil (ay rfl rfl rfl)
    iterate 4 refine ar rfl rfl rfl rfl ?_
    iterate 2 refine pE rfl ?_
    refine WO.nil (ay rfl rfl rfl)
   iterate 4 refine ar rfl rfl rfl rfl ?_
   iterate 2 refine pE rfl ?_
   iterate 4 refine ar rfl rfl rfl rfl ?_
   iterate 2 refine pE rfl ?_
   refine WO.nil (ay rfl rfl rfl)
  iterate 3 refine ar rfl rfl rfl rfl ?_
  iterate 2 refine pE rfl ?_
  iterate 4 refine ar rfl rfl rfl rfl ?_
  iterate 2 refine pE rfl ?_
  iterate 4 refine ar rfl rfl rfl rfl ?_
  iterate 2 refine pE rfl ?_
  refine WO.nil (ay rfl rfl rfl)
 refine qs (W.ret (QF.aq trivial rfl ?_))
 simp only[norm,az,oS,zeroV,hkl,Int.natCast_eq_zero];grind
theorem iX (l:List Int) (s:dK):ax Tryz.prog 128 [.d (.sl (l.map ic)),.row (s.c.map A.d)] (.d (.v (.bool (l.any fun x=>decide (s.op=x))))) 0:=by
 refine ax.aT (n:=8) (ts:=[3]) Tryz.func128 (by kernel_rfl) rfl Tryz.ntmps128 Tryz.results128 rfl rfl fun C hC hG=>?_
 refine W.seq (W.region (pE rfl (WO.nil (qs (W.seq (W.region ?_))))))
 iterate 2 refine pE rfl ?_
 refine pE rfl (pu (ak rfl rfl rfl (sE l s.op) rfl) rfl ?_)
 refine pE rfl (WO.nil (qs (W.ret (QF.aq trivial rfl ?_))))
 rfl
theorem yp (l:List kE) (h:l.length≤16):ax Tryz.prog 95 [.d (.sl (l.map kE.c))] (.d (.v (.int .i64 (dW [] l)))) 0:=by
 refine ax.aT (n:=27) (ts:=[2]) Tryz.func95 (by kernel_rfl) rfl Tryz.ntmps95 Tryz.results95 rfl rfl fun C hC hG=>?_
 refine W.seq (W.region (pE rfl (WO.nil (qs (W.seq (W.region (a8 aa rfl rfl rfl (WO.nil (qs ?_)))))))))
 iterate 2 refine W.seq ?_
 refine W.region ?_
 iterate 3 refine pE rfl ?_
 refine WO.nil (qs (W.block (fv 0 0 rfl rfl rfl ?_)))
 refine W.len (t:=8) rfl rfl (fun hlen=>?_)
 try simp only[List.length_map,Ex.aF] at hlen
 refine W.aS (ι:={x:Nat×List ByteArray // match x with | (k,ns)=>k≤l.length∧dW ns (l.drop k)=dW [] l∧ns.length≤k})
  (fun x=>match x.1 with | (k,ns)=>[(3,.ptr 0 0),(10,.d (.v (.int .i64 ((k:Nat):Int))))]) [(8,_),(9,_)]
  (fun x=>match x.1 with | (k,ns)=>[(0,[.own 1 (ns.map sc)])]) [] [1] 2 (fun x=>match x.1 with | (k,ns)=>l.length - k)
  [0,1] ⟨(0,[]),?_⟩ rfl ?_ ⟨rfl,rfl,rfl,rfl,trivial⟩ ?_ trivial rfl ?_
 · exact⟨Nat.zero_le _,rfl,Nat.le_refl _⟩
 · repeat' first | exact trivial | refine⟨rfl,?_⟩
 · repeat' first | exact trivial | refine⟨rfl,?_⟩
 rintro⟨⟨k,ns⟩,hk,hI,hL⟩
 show W _ _ _ _ _ ⟨[(3,.ptr 0 0),(10,.d (.v (.int .i64 ((k:Nat):Int)))),(8,_),(9,_)],[(0,[.own 1 (ns.map sc)])],[1],2⟩
 refine W.seq (W.region (pE rfl (WO.nil (qs (W.seq (a9 (l:=l) (k:=k) rfl (by simp[Ex.aF,aL]) hk (fun x hx hd hlt=>?_) (fun he hd=>?_)))))))
 ·
  rw[hd] at hI
  simp only[dW] at hI
  refine W.skip (qs (W.seq (W.block (W.seq (W.region (pu (indexAddr aa rfl rfl rfl rfl rfl rfl (Int.natCast_nonneg _) (aE hx) rfl) rfl ?_))))))
  refine pE rfl (a8 aa rfl rfl rfl (aR aa rfl rfl rfl rfl rfl rfl rfl rfl (WO.nil (qs ?_))))
  iterate 2 refine W.seq ?_
  refine W.region (pE rfl (pE rfl (pu (ak rfl rfl rfl (u9 x.e) rfl) rfl ?_)))
  refine pE rfl (WO.nil (qs (W.seq (W.region ?_))))
  iterate 2 refine pE rfl ?_
  refine WO.nil (qs (ao rfl (fun h18=>?_) (fun h18=>?_)))
  ·
   rw[if_pos (by simpa using h18)] at hI
   refine W.seq (W.region ?_)
   iterate 2 refine pE rfl ?_
   refine WO.nil (qs (W.ret (ah (au (ah (aZ (au (ah (QF.aq trivial rfl ?_)))))))))
   rw[←hI];rfl
  rw[if_neg (by simpa using h18)] at hI
  refine W.skip (qs (W.seq (W.region (pE rfl (pE rfl (kQ [0] [1] rfl rfl rfl rfl rfl ((tw ns x.name (by omega))) rfl rfl (by rfl) (by rfl) rfl rfl rfl rfl ?_))))))
  refine pE rfl (WO.nil (qs (W.seq (W.region ?_))))
  iterate 2 refine pE rfl ?_
  refine WO.nil (qs (ao rfl (fun h24=>?_) (fun h24=>?_)))
  ·
   have h24:cv ns x.name≠0:=by simpa using h24
   rw[if_pos h24] at hI
   refine W.seq (W.region ?_)
   iterate 2 refine pE rfl ?_
   refine WO.nil (qs (W.ret (au (ah (aZ (au (ah (QF.aq trivial rfl ?_))))))))
   rw[←hI];rfl
  have h24:cv ns x.name=0:=by simpa using h24
  rw[if_neg (by simp[h24])] at hI
  have hto:fe ns x.name=ns++[x.name]:=by simp[fe,h24]
  refine W.skip (aX (qs (W.region ?_)))
  iterate 2 refine pE rfl ?_
  refine WO.nil (W.aU [0,4] ⟨(k+1,fe ns x.name),?_⟩ ?_ rfl ?_ ⟨rfl,rfl,rfl,rfl,trivial⟩ ?_ trivial rfl)
  ·
   refine⟨hlt,?_,?_⟩
   · rw[hto];exact hI
   rw[hto];simp;omega
  · dsimp only;omega
  · repeat' first | exact trivial | refine⟨rfl,?_⟩ | refine⟨aD (by assumption) (by assumption),?_⟩
  repeat' first | exact trivial | refine⟨rfl,?_⟩
 rw[hd] at hI
 simp only[dW] at hI
 refine W.exit (aN (aQ (aO (qs (W.seq (W.region (pE rfl (WO.nil (qs (W.ret (QF.aq trivial rfl ?_)))))))))))
 rw[←hI];rfl
theorem yl (s:dK):ax Tryz.prog 96 [.ag s.c] (.d (.v (.int .i64 (iW s)))) 0:=by
 refine ax.aT (n:=77) (ts:=[2]) Tryz.func96 (by kernel_rfl) rfl Tryz.ntmps96 Tryz.results96 rfl rfl fun C hC hG=>?_
 refine W.seq (W.region (br rfl rfl rfl (pE rfl (WO.nil (qs (W.seq (W.block (W.seq (gy (g:=0) (j:=8) rfl rfl (fun hl1=>?_))))))))))
 refine gy (g:=0) (j:=9) rfl rfl (fun hl2=>?_)
 simp only[List.length_map,maxLen] at hl1 hl2
 refine W.region (pE rfl (pE rfl ?_))
 iterate 2 refine pE rfl ?_
 refine pE rfl ?_
 iterate 4 refine pE rfl ?_
 refine WO.nil (qs (ao rfl (fun h9=>?_) (fun h9=>?_)))
 ·
  have h9:s.cols.length+s.aggs.length=0:=by have h9':=of_decide_eq_true h9;rw[wrap_zero (by omega) (by simp only[List.length_map];omega)] at h9';simp only[List.length_map] at h9';omega
  refine W.seq (W.region (pE rfl (WO.nil (qs (W.ret (au (ah (QF.aq trivial rfl ?_))))))))
  simp only[norm,az,List.length_map] at *;grind[iW]
 have h9:¬ (s.cols.length+s.aggs.length=0):=by have h9':=of_decide_eq_false h9;rw[wrap_zero (by omega) (by simp only[List.length_map];omega)] at h9';simp only[List.length_map] at h9';omega
 refine W.seq ?_
 apply aC;(case hb=>rfl)
 ·
  refine pE rfl (pE rfl ?_)
  iterate 3 refine pE rfl ?_
  apply aw;(case hj=>rfl);(case hl=>rfl)
  ·
   iterate 4 refine ar rfl rfl rfl rfl ?_
   iterate 2 refine pE rfl ?_
   refine WO.nil (ay rfl rfl rfl)
  refine ab rfl rfl (pE rfl (ab rfl rfl (pE rfl (ab rfl rfl (pE rfl (ab rfl rfl ?_))))))
  iterate 3 refine pE rfl ?_
  refine WO.nil (ay rfl rfl rfl)
 refine qs (ao rfl (fun h18=>?_) (fun h18=>?_))
 ·
  refine W.seq (W.region (pE rfl (WO.nil (qs (W.ret (au (ah (QF.aq trivial rfl ?_))))))))
  simp only[norm,az,List.length_map] at *;grind[iW]
 have h18:¬ (16 < s.cols.length∨16 < s.aggs.length):=by simp only[List.length_map] at h18;intro h;simp at h18;omega
 have hge:iW s=if bR [] s.cols≠0 then bR [] s.cols else gN s.cols s.aggs:=by unfold iW;rw[if_neg h9,if_neg h18]
 refine W.skip (aX (qs (W.seq (W.region (a8 aa rfl rfl rfl (WO.nil (qs ?_)))))))
 iterate 2 refine W.seq ?_
 refine W.region (qm 1 0 rfl rfl rfl ?_)
 refine pE rfl (pE rfl (kQ [1] [2] rfl rfl rfl rfl rfl ((pg [] s.cols (by simp;omega))) rfl rfl (by rfl) (by rfl) rfl rfl rfl rfl ?_))
 refine pE rfl (WO.nil (qs (W.seq (W.region ?_))))
 iterate 2 refine pE rfl ?_
 refine WO.nil (qs (ao rfl (fun h33=>?_) (fun h33=>?_)))
 ·
  rw[if_pos (by simpa using h33)] at hge
  refine W.seq (W.region ?_)
  iterate 2 refine pE rfl ?_
  refine WO.nil (qs (W.ret (ah (QF.aq trivial rfl ?_))))
  rw[hge];rfl
 have h33:bR [] s.cols=0:=by simpa using h33
 rw[if_neg (by simp[h33])] at hge
 have hto:=tj [] s.cols h33
 refine W.skip (qs ?_)
 iterate 2 refine W.seq ?_
 refine W.region (pE rfl (pE rfl ?_))
 iterate 2 refine pE rfl ?_
 refine WO.nil (qs (W.block ?_))
 refine W.aS (ι:={x:Nat×List ByteArray // match x with | (k,ns)=>k≤s.aggs.length∧gN ns (s.aggs.drop k)=gN s.cols s.aggs∧ns.length≤s.cols.length+k})
  (fun x=>match x.1 with | (k,ns)=>[(3,.ptr 0 0),(38,.d (.v (.int .i64 ((k:Nat):Int))))]) [(36,_),(37,_)]
  (fun x=>match x.1 with | (k,ns)=>[(0,[.own 1 (ns.map sc)])]) [] [1] 2 (fun x=>match x.1 with | (k,ns)=>s.aggs.length - k)
  [1,4] ⟨(0,jP [] s.cols),?_⟩ rfl ?_ ⟨rfl,rfl,rfl,rfl,trivial⟩ ?_ trivial rfl ?_
 · exact⟨Nat.zero_le _,by rw[hto];rfl,by rw[hto];simp⟩
 · repeat' first | exact trivial | refine⟨rfl,?_⟩
 · repeat' first | exact trivial | refine⟨rfl,?_⟩
 rintro⟨⟨k,ns⟩,hk,hI,hL⟩
 show W _ _ _ _ _ ⟨[(3,.ptr 0 0),(38,.d (.v (.int .i64 ((k:Nat):Int)))),(36,_),(37,_)],[(0,[.own 1 (ns.map sc)])],[1],2⟩
 refine W.seq (W.region (pE rfl (WO.nil (qs (W.seq (a9 (l:=s.aggs) (k:=k) rfl (by simp[Ex.aF,aL]) hk (fun x hx hd hlt=>?_) (fun he hd=>?_)))))))
 ·
  rw[hd] at hI
  simp only[gN] at hI
  refine W.skip (qs (W.seq (W.block (W.seq (W.region (pu (indexAddr aa rfl rfl rfl rfl rfl rfl (Int.natCast_nonneg _) (aE hx) rfl) rfl ?_))))))
  refine pE rfl (a8 aa rfl rfl rfl (aR aa rfl rfl rfl rfl rfl rfl rfl rfl (WO.nil (qs (W.seq (W.region (pE rfl (pE rfl ?_))))))))
  iterate 2 refine pE rfl ?_
  refine WO.nil (qs ?_)
  iterate 2 refine W.seq ?_
  apply aC;(case hb=>rfl)
  ·
   iterate 3 refine pE rfl ?_
   apply aw;(case hj=>rfl);(case hl=>rfl)
   ·
    refine ab rfl rfl (pu (aI aa rfl rfl rfl rfl rfl rfl rfl rfl rfl) rfl ?_)
    refine ab rfl rfl (pE rfl (ab rfl rfl (pE rfl (ab rfl rfl (pu (ak rfl rfl rfl (eA [jZ,dT,dS,ql] x.fn) rfl) rfl ?_)))))
    refine ab rfl rfl ?_
    iterate 3 refine pE rfl ?_
    apply aw;(case hj=>rfl);(case hl=>rfl)
    ·
     iterate 5 refine ar rfl rfl rfl rfl ?_
     refine pE rfl (WO.nil (ay rfl rfl rfl))
    refine ab rfl rfl (pE rfl (ab rfl rfl (pE rfl (ab rfl rfl (pE rfl (ab rfl rfl (pE rfl (ab rfl rfl ?_))))))))
    iterate 2 refine pE rfl ?_
    refine WO.nil (ay rfl rfl rfl)
   iterate 5 refine ar rfl rfl rfl rfl ?_
   iterate 2 refine pE rfl ?_
   refine ab rfl rfl (pE rfl (ab rfl rfl (pE rfl (ab rfl rfl (pE rfl (ab rfl rfl (pE rfl (ab rfl rfl ?_))))))))
   iterate 2 refine pE rfl ?_
   refine WO.nil (ay rfl rfl rfl)
  refine qs (ao rfl (fun h60=>?_) (fun h60=>?_))
  ·
   have h60:jG x=true:=by revert h60;simp only[jG,lA,fB];by_cases q:x.fn=B #[99,111,117,110,116] <;> by_cases q2:x.col=B #[] <;> simp[q,q2] <;> grind
   rw[if_pos h60] at hI
   refine W.seq (W.region (pE rfl (WO.nil (qs (W.ret (ah (au (ah (aZ (au (ah (QF.aq trivial rfl ?_))))))))))))
   rw[hge,←hI];rfl
  have h60:¬ (jG x=true):=by revert h60;simp only[jG,lA,fB];by_cases q:x.fn=B #[99,111,117,110,116] <;> by_cases q2:x.col=B #[] <;> simp[q,q2] <;> grind
  rw[if_neg h60] at hI
  refine W.skip (qs ?_)
  iterate 2 refine W.seq ?_
  apply aC;(case hb=>rfl)
  ·
   refine pE rfl (pE rfl ?_)
   iterate 2 refine pE rfl ?_
   apply aw;(case hj=>rfl);(case hl=>rfl)
   ·
    refine ab rfl rfl (pE rfl (ab rfl rfl (pE rfl (ab rfl rfl (pu (ak rfl rfl rfl (gz ..) rfl) rfl ?_)))))
    refine ab rfl rfl ?_
    iterate 2 refine pE rfl ?_
    refine WO.nil (ay rfl rfl rfl)
   iterate 4 refine ar rfl rfl rfl rfl ?_
   refine pE rfl (WO.nil (ay rfl rfl rfl))
  refine qs (ao rfl (fun h69=>?_) (fun h69=>?_))
  ·
   have h69:x.col≠B #[]∧cC x.col=false:=by revert h69;by_cases q2:x.col=B #[] <;> simp[q2]
   rw[if_pos h69] at hI
   refine W.seq (W.region (pE rfl (WO.nil (qs (W.ret (ah (au (ah (aZ (au (ah (QF.aq trivial rfl ?_))))))))))))
   rw[hge,←hI];rfl
  have h69:¬ (x.col≠B #[]∧cC x.col=false):=by revert h69;by_cases q2:x.col=B #[] <;> simp[q2]
  rw[if_neg h69] at hI
  refine W.skip (qs (W.seq (W.region (pE rfl (pE rfl (kQ [0] [1] rfl rfl rfl rfl rfl ((tw ns x.name (by omega))) rfl rfl (by rfl) (by rfl) rfl rfl rfl rfl ?_))))))
  refine pE rfl (WO.nil (qs (W.seq (W.region ?_))))
  iterate 2 refine pE rfl ?_
  refine WO.nil (qs (ao rfl (fun h74=>?_) (fun h74=>?_)))
  ·
   rw[if_pos (by simpa using h74)] at hI
   refine W.seq (W.region ?_)
   iterate 2 refine pE rfl ?_
   refine WO.nil (qs (W.ret (au (ah (aZ (au (ah (QF.aq trivial rfl ?_))))))))
   rw[hge,←hI];rfl
  have h74:cv ns x.name=0:=by simpa using h74
  rw[if_neg (by simp[h74])] at hI
  have hto:fe ns x.name=ns++[x.name]:=by simp[fe,h74]
  refine W.skip (aX (qs (W.region ?_)))
  iterate 2 refine pE rfl ?_
  refine WO.nil (W.aU [0,4] ⟨(k+1,fe ns x.name),?_⟩ ?_ rfl ?_ ⟨rfl,rfl,rfl,rfl,trivial⟩ ?_ trivial rfl)
  ·
   refine⟨hlt,?_,?_⟩
   · rw[hto];exact hI
   rw[hto];simp;omega
  · dsimp only;omega
  · repeat' first | exact trivial | refine⟨rfl,?_⟩ | refine⟨aD (by assumption) (by assumption),?_⟩
  repeat' first | exact trivial | refine⟨rfl,?_⟩
 rw[hd] at hI
 simp only[gN] at hI
 refine W.exit (aN (aQ (aO (qs (W.seq (W.region (pE rfl (WO.nil (qs (W.ret (QF.aq trivial rfl ?_)))))))))))
 rw[hge,←hI];rfl
end Go.Proofs.YtjenenllmjlimaaGreat
namespace Go.Proofs.YtjenenllmjlimaaGreat
open Go.Ab Go.Tb
set_option maxRecDepth 10000
attribute [local irreducible] W WO Pu QS QB QL QF QV b7 CH QE
theorem zn (s:dK):ax Tryz.prog 92 [.ag s.c] (.d (.v (.bool (eB s)))) 0:=by
 refine ax.aT (n:=83) (ts:=[2]) Tryz.func92 (by kernel_rfl) rfl Tryz.ntmps92 Tryz.results92 rfl rfl fun C hC hG=>?_
 refine W.seq (W.region (br rfl rfl rfl (pE rfl (WO.nil (qs (W.seq (W.region ?_)))))))
 iterate 2 refine pE rfl ?_
 refine WO.nil (qs (W.seq (W.block (W.seq ?_))))
 apply aC;(case hb=>rfl)
 ·
  refine pE rfl (pE rfl ?_)
  iterate 2 refine pE rfl ?_
  apply aw;(case hj=>rfl);(case hl=>rfl)
  ·
   iterate 3 refine ar rfl rfl rfl rfl ?_
   iterate 2 refine pE rfl ?_
   refine WO.nil (ay rfl rfl rfl)
  refine ab rfl rfl (pE rfl (ab rfl rfl (pE rfl (ab rfl rfl ?_))))
  iterate 3 refine pE rfl ?_
  refine WO.nil (ay rfl rfl rfl)
 refine qs (ao rfl (fun h5=>?_) (fun h5=>?_))
 ·
  refine W.seq (W.region (pE rfl (WO.nil (qs (W.ret (au (ah (QF.aq trivial rfl ?_))))))))
  simp only[norm,az,List.length_map,List.any_cons,List.any_nil,Bool.or_false] at *;congr 3;simp only[eB,bK];grind
 iterate 2 refine W.seq ?_
 apply aC;(case hb=>rfl)
 ·
  refine pE rfl (pu (aI aa rfl rfl rfl rfl rfl rfl rfl rfl rfl) rfl ?_)
  refine pu (ak rfl rfl rfl (iX [1] s) rfl) rfl ?_
  iterate 2 refine pE rfl ?_
  apply aw;(case hj=>rfl);(case hl=>rfl)
  ·
   refine ab rfl rfl (pE rfl (ab rfl rfl (pE rfl (ab rfl rfl (pu (ak rfl rfl rfl (zu s.cond) rfl) rfl ?_)))))
   refine ab rfl rfl ?_
   iterate 3 refine pE rfl ?_
   refine WO.nil (ay rfl rfl rfl)
  iterate 4 refine ar rfl rfl rfl rfl ?_
  iterate 2 refine pE rfl ?_
  refine WO.nil (ay rfl rfl rfl)
 refine qs (ao rfl (fun h14=>?_) (fun h14=>?_))
 ·
  refine W.skip (qs (W.cS rfl (W.seq (W.region (pE rfl (WO.nil (qs (W.ret (au (ah (QF.aq trivial rfl ?_)))))))))))
  simp only[norm,az,List.length_map,List.any_cons,List.any_nil,Bool.or_false] at *;congr 3;simp only[eB,bK];grind
 refine W.seq ?_
 apply aC;(case hb=>rfl)
 ·
  refine pE rfl (pu (aI aa rfl rfl rfl rfl rfl rfl rfl rfl rfl) rfl ?_)
  refine pu (ak rfl rfl rfl (iX [2] s) rfl) rfl ?_
  iterate 2 refine pE rfl ?_
  apply aw;(case hj=>rfl);(case hl=>rfl)
  ·
   refine ab rfl rfl (pE rfl (ab rfl rfl (pE rfl (ab rfl rfl (pE rfl (ab rfl rfl ?_))))))
   iterate 3 refine pE rfl ?_
   refine WO.nil (ay rfl rfl rfl)
  iterate 4 refine ar rfl rfl rfl rfl ?_
  iterate 2 refine pE rfl ?_
  refine WO.nil (ay rfl rfl rfl)
 refine qs (ao rfl (fun h14=>?_) (fun h14=>?_))
 ·
  refine W.skip (qs (W.cS rfl (W.seq (W.region (pE rfl (WO.nil (qs (W.ret (au (ah (QF.aq trivial rfl ?_)))))))))))
  simp only[norm,az,List.length_map,List.any_cons,List.any_nil,Bool.or_false] at *;congr 3;simp only[eB,bK];grind
 refine W.seq ?_
 apply aC;(case hb=>rfl)
 ·
  refine pE rfl (pu (aI aa rfl rfl rfl rfl rfl rfl rfl rfl rfl) rfl ?_)
  refine pu (ak rfl rfl rfl (iX [3] s) rfl) rfl ?_
  iterate 2 refine pE rfl ?_
  apply aw;(case hj=>rfl);(case hl=>rfl)
  ·
   refine ab rfl rfl (pE rfl (ab rfl rfl (pE rfl (ab rfl rfl (pE rfl (ab rfl rfl ?_))))))
   iterate 3 refine pE rfl ?_
   refine WO.nil (ay rfl rfl rfl)
  iterate 4 refine ar rfl rfl rfl rfl ?_
  iterate 2 refine pE rfl ?_
  refine WO.nil (ay rfl rfl rfl)
 refine qs (ao rfl (fun h14=>?_) (fun h14=>?_))
 ·
  refine W.skip (qs (W.cS rfl (W.seq (W.region (pE rfl (WO.nil (qs (W.ret (au (ah (QF.aq trivial rfl ?_)))))))))))
  simp only[norm,az,List.length_map,List.any_cons,List.any_nil,Bool.or_false] at *;congr 3;simp only[eB,bK];grind
 refine W.seq ?_
 apply aC;(case hb=>rfl)
 ·
  refine pE rfl (pu (aI aa rfl rfl rfl rfl rfl rfl rfl rfl rfl) rfl ?_)
  refine pu (ak rfl rfl rfl (iX [4] s) rfl) rfl ?_
  iterate 2 refine pE rfl ?_
  apply aw;(case hj=>rfl);(case hl=>rfl)
  ·
   refine ab rfl rfl (pE rfl (ab rfl rfl (pE rfl (ab rfl rfl (pE rfl (ab rfl rfl ?_))))))
   iterate 3 refine pE rfl ?_
   refine WO.nil (ay rfl rfl rfl)
  iterate 4 refine ar rfl rfl rfl rfl ?_
  iterate 2 refine pE rfl ?_
  refine WO.nil (ay rfl rfl rfl)
 refine qs (ao rfl (fun h14=>?_) (fun h14=>?_))
 ·
  refine W.skip (qs (W.cS rfl (W.seq (W.region (pE rfl (WO.nil (qs (W.ret (au (ah (QF.aq trivial rfl ?_)))))))))))
  simp only[norm,az,List.length_map,List.any_cons,List.any_nil,Bool.or_false] at *;congr 3;simp only[eB,bK];grind
 apply aC;(case hb=>rfl)
 ·
  refine pE rfl (pu (aI aa rfl rfl rfl rfl rfl rfl rfl rfl rfl) rfl ?_)
  refine pu (ak rfl rfl rfl (iX [5] s) rfl) rfl ?_
  iterate 2 refine pE rfl ?_
  apply aw;(case hj=>rfl);(case hl=>rfl)
  ·
   refine ab rfl rfl (pE rfl (ab rfl rfl (pE rfl (ab rfl rfl ?_))))
   iterate 3 refine pE rfl ?_
   refine WO.nil (ay rfl rfl rfl)
  iterate 3 refine ar rfl rfl rfl rfl ?_
  iterate 2 refine pE rfl ?_
  refine WO.nil (ay rfl rfl rfl)
 refine qs (ao rfl (fun h14=>?_) (fun h14=>?_))
 ·
  refine W.seq (W.region (pE rfl (WO.nil (qs (W.ret (au (ah (QF.aq trivial rfl ?_))))))))
  simp only[norm,az,List.length_map,List.any_cons,List.any_nil,Bool.or_false] at *;congr 3;simp only[eB,bK];grind
 refine W.seq ?_
 apply aC;(case hb=>rfl)
 ·
  refine pE rfl (pu (aI aa rfl rfl rfl rfl rfl rfl rfl rfl rfl) rfl ?_)
  refine pu (ak rfl rfl rfl (iX [6,7,8] s) rfl) rfl ?_
  iterate 2 refine pE rfl ?_
  apply aw;(case hj=>rfl);(case hl=>rfl)
  ·
   refine ab rfl rfl (pE rfl (ab rfl rfl (pE rfl (ab rfl rfl ?_))))
   iterate 3 refine pE rfl ?_
   refine WO.nil (ay rfl rfl rfl)
  iterate 3 refine ar rfl rfl rfl rfl ?_
  iterate 2 refine pE rfl ?_
  refine WO.nil (ay rfl rfl rfl)
 refine qs (ao rfl (fun h64=>?_) (fun h64=>?_))
 ·
  refine W.seq (W.region (pE rfl (WO.nil (qs (W.ret (au (ah (QF.aq trivial rfl ?_))))))))
  simp only[norm,az,List.length_map,List.any_cons,List.any_nil,Bool.or_false] at *;congr 3;simp only[eB,bK];grind
 refine W.skip (aX (qs (W.seq ?_)))
 apply aC;(case hb=>rfl)
 ·
  refine pE rfl (pu (aI aa rfl rfl rfl rfl rfl rfl rfl rfl rfl) rfl ?_)
  refine pu (ak rfl rfl rfl (iX [3,6,7,8,9] s) rfl) rfl ?_
  refine pE rfl ?_
  apply aw;(case hj=>rfl);(case hl=>rfl)
  ·
   iterate 4 refine ar rfl rfl rfl rfl ?_
   iterate 2 refine pE rfl ?_
   refine WO.nil (ay rfl rfl rfl)
  refine ab rfl rfl (pE rfl (ab rfl rfl (pE rfl (ab rfl rfl (pE rfl (ab rfl rfl ?_))))))
  iterate 3 refine pE rfl ?_
  refine WO.nil (ay rfl rfl rfl)
 refine qs (W.ret (QF.aq trivial rfl ?_))
 simp only[norm,az,List.length_map,List.any_cons,List.any_nil,Bool.or_false] at *;congr 3;simp only[eB,bK];grind
theorem zB (s:dK) (hs:s.sorts.length≤100000):ax Tryz.prog 62 [.ag s.c] (.d (.v (.int .i64 (bZ s)))) 0:=by
 refine ax.aT (n:=77) (ts:=[2]) Tryz.func62 (by kernel_rfl) rfl Tryz.ntmps62 Tryz.results62 rfl rfl fun C hC hG=>?_
 refine W.seq (W.region (br rfl rfl rfl (pE rfl (WO.nil (qs ?_)))))
 iterate 2 refine W.seq ?_
 refine W.region (pE rfl (pu (ak rfl rfl rfl (zn s) rfl) rfl ?_))
 refine pE rfl (WO.nil (qs (ao rfl (fun h10=>?_) (fun h10=>?_))))
 ·
  have h10:eB s=false:=by simpa using h10
  refine W.seq (W.region (pE rfl (WO.nil (qs (W.ret (ah (QF.aq trivial rfl ?_)))))))
  simp only[norm,az,List.length_map] at *;grind[bZ]
 have h10:eB s=true:=by simpa using h10
 refine W.skip (qs ?_)
 iterate 2 refine W.seq ?_
 refine W.region (pE rfl (pE rfl (WO.nil (qs (W.block (W.seq (W.region ?_)))))))
 iterate 2 refine pE rfl ?_
 refine WO.nil (qs (ao rfl (fun h13=>?_) (fun h13=>?_)))
 ·
  refine W.seq (W.region (pE rfl (pE rfl (pu (ak rfl rfl rfl (u9 s.cond) rfl) rfl ?_))))
  refine pE rfl (WO.nil (qs (W.ret (au (ah (QF.aq trivial rfl ?_))))))
  simp only[norm,az,List.length_map] at *;grind[bZ]
 refine W.seq (W.region ?_)
 iterate 2 refine pE rfl ?_
 refine WO.nil (qs (ao rfl (fun h18=>?_) (fun h18=>?_)))
 ·
  iterate 2 refine W.seq ?_
  refine W.region (pE rfl (pE rfl (pE rfl (pu (ak rfl rfl rfl (u0 ..) rfl) rfl ?_))))
  refine pE rfl (WO.nil (qs (W.seq (W.region ?_))))
  iterate 2 refine pE rfl ?_
  refine WO.nil (qs (ao rfl (fun h25=>?_) (fun h25=>?_)))
  ·
   refine W.seq (W.region ?_)
   iterate 2 refine pE rfl ?_
   refine WO.nil (qs (W.ret (ah (au (ah (QF.aq trivial rfl ?_))))))
   simp only[norm,az,List.length_map] at *;grind[bZ]
  have h25:du s.items.length 1=0:=by simpa using h25
  have hl16:s.items.length≤16:=by unfold du at h25;split at h25;omega;split at h25 <;> omega
  refine W.skip (qs (W.seq (W.region (pE rfl (pE rfl (pu (ak rfl rfl rfl (yp s.items hl16) rfl) rfl ?_))))))
  refine pE rfl (WO.nil (qs (W.ret (au (ah (QF.aq trivial rfl ?_))))))
  simp only[norm,az,List.length_map] at *;grind[bZ]
 refine W.seq (W.region ?_)
 iterate 2 refine pE rfl ?_
 refine WO.nil (qs (ao rfl (fun h30=>?_) (fun h30=>?_)))
 ·
  refine W.seq (W.region (pE rfl (pu (ak rfl rfl rfl (yl s) rfl) rfl ?_)))
  refine pE rfl (WO.nil (qs (W.ret (au (ah (QF.aq trivial rfl ?_))))))
  simp only[norm,az,List.length_map] at *;grind[bZ]
 refine W.seq (W.region ?_)
 iterate 2 refine pE rfl ?_
 refine WO.nil (qs (ao rfl (fun h34=>?_) (fun h34=>?_)))
 ·
  refine W.seq (W.region (pE rfl (WO.nil (qs ?_))))
  iterate 2 refine W.seq ?_
  refine W.region (pE rfl (pE rfl ?_))
  iterate 2 refine pE rfl ?_
  refine WO.nil (qs (W.block (aG (d:=4) rfl rfl ?_)))
  refine W.len (t:=37) rfl rfl (fun hlen=>?_)
  try simp only[List.length_map,Ex.aF] at hlen
  refine W.aS (ι:={x:Nat×List ByteArray // match x with | (k,ns)=>k≤s.sorts.length∧ns=(s.sorts.take k).map ly.col})
   (fun x=>match x.1 with | (k,ns)=>[(4,.own 0 (ns.map sc)),(39,.d (.v (.int .i64 ((k:Nat):Int))))]) [(37,_),(38,_)]
   (fun x=>match x.1 with | (k,ns)=>[]) [] [0] 1 (fun x=>match x.1 with | (k,ns)=>s.sorts.length - k)
   [1] ⟨(0,[]),?_⟩ rfl ?_ ⟨rfl,rfl,rfl,rfl,trivial⟩ ?_ trivial rfl ?_
  · exact⟨Nat.zero_le _,rfl⟩
  · repeat' first | exact trivial | refine⟨rfl,?_⟩
  · repeat' exact trivial
  rintro⟨⟨k,ns⟩,hk,hI⟩
  show W _ _ _ _ _ ⟨[(4,.own 0 (ns.map sc)),(39,.d (.v (.int .i64 ((k:Nat):Int)))),(37,_),(38,_)],[],[0],1⟩
  refine W.seq (W.region (pE rfl (WO.nil (qs (W.seq (a9 (l:=s.sorts) (k:=k) rfl (by simp[Ex.aF,aL]) hk (fun x hx hd hlt=>?_) (fun he hd=>?_)))))))
  ·
   have hnl:ns.length=k:=by rw[hI];simp;omega
   refine W.skip (qs (W.seq (W.block (W.seq (W.region (pu (indexAddr aa rfl rfl rfl rfl rfl rfl (Int.natCast_nonneg _) (aE hx) rfl) rfl ?_))))))
   refine pE rfl (a8 aa rfl rfl rfl (aR aa rfl rfl rfl rfl rfl rfl rfl rfl (WO.nil (qs (W.region ?_)))))
   iterate 2 refine pE rfl ?_
   refine pE rfl (pu (aI aa rfl rfl rfl rfl rfl rfl rfl rfl rfl) rfl ?_)
   refine bJ aa rfl rfl rfl rfl rfl rfl rfl rfl rfl rfl (fun _=>rfl) (by show(ns.length+1)*16≤_;omega) ?_
   refine pE rfl (WO.nil (aX (qs (W.region ?_))))
   iterate 2 refine pE rfl ?_
   refine WO.nil (W.aU [2] ⟨(k+1,ns++[x.col]),?_⟩ ?_ rfl ?_ ⟨rfl,rfl,rfl,rfl,trivial⟩ ?_ trivial rfl)
   · exact⟨hlt,by rw[hI,List.take_add_one,hx];simp⟩
   · dsimp only;omega
   · repeat' first | exact trivial | refine⟨rfl,?_⟩ | refine⟨aD (by assumption) (by assumption),?_⟩
   repeat' exact trivial
  have hns:ns=s.sorts.map ly.col:=by rw[hI,he,List.take_length]
  refine W.exit (aN (aQ (aO (qs (W.seq (W.region (pE rfl (pu (ak rfl rfl rfl (kI ns 1) rfl) rfl ?_))))))))
  refine pE rfl (WO.nil (qs (W.ret (au (ah (QF.aq trivial rfl ?_))))))
  simp only[norm,az,List.length_map] at *;grind[bZ]
 refine W.seq (W.region ?_)
 iterate 2 refine pE rfl ?_
 refine WO.nil (qs (ao rfl (fun h51=>?_) (fun h51=>?_)))
 ·
  iterate 2 refine W.seq ?_
  apply aC;(case hb=>rfl)
  ·
   refine pE rfl (pE rfl ?_)
   iterate 2 refine pE rfl ?_
   apply aw;(case hj=>rfl);(case hl=>rfl)
   ·
    iterate 3 refine ar rfl rfl rfl rfl ?_
    refine pE rfl (WO.nil (ay rfl rfl rfl))
   refine ab rfl rfl (pE rfl (ab rfl rfl (pE rfl (ab rfl rfl ?_))))
   iterate 2 refine pE rfl ?_
   refine WO.nil (ay rfl rfl rfl)
  refine qs (ao rfl (fun h60=>?_) (fun h60=>?_))
  ·
   refine W.seq (W.region (pE rfl (WO.nil (qs (W.ret (ah (au (ah (QF.aq trivial rfl ?_)))))))))
   simp only[norm,az,List.length_map] at *;grind[bZ]
  refine W.skip (qs (W.seq (W.region (pE rfl (WO.nil (qs (W.ret (au (ah (QF.aq trivial rfl ?_))))))))))
  simp only[norm,az,List.length_map] at *;grind[bZ]
 refine W.seq (W.region ?_)
 iterate 2 refine pE rfl ?_
 refine WO.nil (qs (ao rfl (fun h61=>?_) (fun h61=>?_)))
 ·
  refine W.seq (W.region (pE rfl (pE rfl (pu (ak rfl rfl rfl (kI ..) rfl) rfl ?_))))
  refine pE rfl (WO.nil (qs (W.ret (au (ah (QF.aq trivial rfl ?_))))))
  simp only[norm,az,List.length_map] at *;grind[bZ]
 refine W.skip (aX (qs ?_))
 iterate 2 refine W.seq ?_
 refine W.region (pE rfl (pE rfl (pu (ak rfl rfl rfl (gz ..) rfl) rfl ?_)))
 refine pE rfl (WO.nil (qs (ao rfl (fun h69=>?_) (fun h69=>?_))))
 ·
  refine W.seq (W.region (pE rfl (WO.nil (qs (W.ret (ah (QF.aq trivial rfl ?_)))))))
  simp only[norm,az,List.length_map] at *;grind[bZ]
 refine W.skip (qs (W.seq (W.region (pE rfl (WO.nil (qs ?_))))))
 iterate 2 refine W.seq ?_
 refine W.region (pE rfl (pE rfl (pE rfl (WO.nil (qs (ao rfl (fun h72=>?_) (fun h72=>?_)))))))
 ·
  refine W.region (pE rfl (WO.nil (qs (W.seq (W.region (pE rfl (pE rfl (pE rfl (pu (ak rfl rfl rfl (kI ..) rfl) rfl ?_)))))))))
  refine pE rfl (WO.nil (qs (W.ret (QF.aq trivial rfl ?_))))
  simp only[norm,az,List.length_map] at *;grind[bZ]
 refine W.skip (qs (W.seq (W.region (pE rfl (pE rfl (pE rfl (pu (ak rfl rfl rfl (kI ..) rfl) rfl ?_)))))))
 refine pE rfl (WO.nil (qs (W.ret (QF.aq trivial rfl ?_))))
 simp only[norm,az,List.length_map] at *;grind[bZ]
end Go.Proofs.YtjenenllmjlimaaGreat
namespace Go.Proofs.YtjenenllmjlimaaGreat
open Go.Ab Go.Tb
set_option maxRecDepth 10000
attribute [local irreducible] W WO Pu QS QB QL QF QV b7 CH QE
def om:Option bo→List D
 | some t=>t.c
 | none=>[.v (.slice none 0 0),.v (.slice none 0 0)]
theorem uK (o:Option bo):∃ p q,om o=[p,q]:=by cases o <;> exact⟨_,_,rfl⟩
theorem y6 (d:List iH) (name:ByteArray):ax Tryz.prog 105 [.d (.sl (d.map iH.c)),.d (.v (.string name))] (.tup [.ag (om (dk d name)),.d (.v (.bool (dk d name).isSome))]) 0:=by
 refine ax.fg aa (n:=22) (rs:=[.cell 4 25,.tmp 5]) Tryz.func105 (by kernel_rfl) rfl Tryz.ntmps105 Tryz.results105 rfl fun C hC hG=>?_
 refine W.seq (W.region (a8 aa rfl rfl rfl (pE rfl (WO.nil (qs ?_)))))
 iterate 2 refine W.seq ?_
 refine W.region ?_
 iterate 3 refine pE rfl ?_
 refine WO.nil (qs (W.block (W.len (t:=8) rfl rfl (fun hlen=>?_))))
 try simp only[List.length_map,Ex.aF] at hlen
 refine W.aS (ι:={x:Nat // match x with | k=>k≤d.length∧dk (d.drop k) name=dk d name})
  (fun x=>match x.1 with | k=>[(4,.ptr 0 0),(10,.d (.v (.int .i64 ((k:Nat):Int))))]) [(1,_),(8,_),(9,_)]
  (fun x=>match x.1 with | k=>[]) [(0,_)] [] 1 (fun x=>match x.1 with | k=>d.length - k)
  [0] ⟨0,?_⟩ rfl ?_ ⟨rfl,rfl,rfl,rfl,rfl,rfl,trivial⟩ ?_ ⟨rfl,rfl,trivial⟩ rfl ?_
 · exact⟨Nat.zero_le _,rfl⟩
 · repeat' first | exact trivial | refine⟨rfl,?_⟩
 · repeat' exact trivial
 rintro⟨k,hk,hI⟩
 show W _ _ _ _ _ ⟨[(4,.ptr 0 0),(10,.d (.v (.int .i64 ((k:Nat):Int)))),(1,_),(8,_),(9,_)],[(0,_)],[],1⟩
 refine W.seq (W.region (pE rfl (WO.nil (qs (W.seq (a9 (l:=d) (k:=k) rfl (by simp[Ex.aF,aL]) hk (fun x hx hd hlt=>?_) (fun he hd=>?_)))))))
 ·
  rw[hd] at hI
  simp only[dk,List.find?_cons] at hI
  refine W.skip (qs (W.seq (W.block (W.seq (W.region (pu (indexAddr aa rfl rfl rfl rfl rfl rfl (Int.natCast_nonneg _) (aE hx) rfl) rfl ?_))))))
  refine pE rfl (a8 aa rfl rfl rfl (aR aa rfl rfl rfl rfl rfl rfl rfl rfl (WO.nil (qs (W.seq (W.region (pE rfl (pE rfl ?_))))))))
  iterate 2 refine pE rfl ?_
  refine WO.nil (qs (ao rfl (fun h17=>?_) (fun h17=>?_)))
  ·
   rw[h17] at hI
   refine W.seq (W.region (pE rfl (pE rfl (aR aa rfl rfl rfl rfl rfl rfl rfl rfl (pE rfl (WO.nil (qs (W.ret (au (ah (aZ (au (ah ?_)))))))))))))
   refine QV.aq aa trivial rfl ?_
   have h0:dk d name=some x.table:=hI.symm
   rw[h0];rfl
  rw[h17] at hI
  refine W.skip (aX (qs (W.region ?_)))
  iterate 2 refine pE rfl ?_
  refine WO.nil (W.aU [0] ⟨k+1,?_⟩ ?_ rfl ?_ ⟨rfl,rfl,rfl,rfl,rfl,rfl,trivial⟩ ?_ ⟨rfl,rfl,trivial⟩ rfl)
  · exact⟨hlt,hI⟩
  · dsimp only;omega
  · repeat' first | exact trivial | refine⟨rfl,?_⟩ | refine⟨aD (by assumption) (by assumption),?_⟩
  repeat' exact trivial
 rw[hd] at hI
 refine W.exit (aN (aQ (aO (qs (W.seq (W.region (pu (build aa rfl rfl rfl rfl) rfl ?_)))))))
 refine aR aa rfl rfl rfl rfl rfl rfl rfl rfl (pE rfl (WO.nil (qs (W.ret (QV.aq aa trivial rfl ?_)))))
 have h0:dk d name=none:=hI.symm
 rw[h0];rfl
theorem yC (cols:List Col) (z:D) (name:ByteArray):ax Tryz.prog 34 [.ag [.sl (cols.map Col.c),z],.d (.v (.string name))] (.d (.v (.int .i64 (idx (cols.findIdx? fun x=>decide (x.name=name)))))) 0:=by
 refine ax.aT (n:=9) (ts:=[4]) Tryz.func34 (by kernel_rfl) rfl Tryz.ntmps34 Tryz.results34 rfl rfl fun C hC hG=>?_
 refine W.seq (W.region (br rfl rfl rfl (br rfl rfl rfl (pE rfl (WO.nil (qs (W.seq (W.region (pE rfl (pE rfl (pE rfl (pu (ak rfl rfl rfl (od _ _ ⟨fun _ _=>rfl,rfl⟩ _ (sD name) cols) rfl) rfl ?_))))))))))))
 refine pE rfl (WO.nil (qs (W.ret (QF.aq trivial rfl ?_))))
 rfl
theorem xX (t:bo):ax Tryz.prog 43 [.ag t.c] (.d (.v (.int .i64 (bj t)))) 0:=by
 refine ax.aT (n:=91) (ts:=[2]) Tryz.func43 (by kernel_rfl) rfl Tryz.ntmps43 Tryz.results43 rfl rfl fun C hC hG=>?_
 refine W.seq (W.region (br rfl rfl rfl (pE rfl (WO.nil (qs ?_)))))
 iterate 2 refine W.seq ?_
 apply aC;(case hb=>rfl)
 ·
  refine pE rfl (pE rfl ?_)
  iterate 3 refine pE rfl ?_
  apply aw;(case hj=>rfl);(case hl=>rfl)
  ·
   iterate 4 refine ar rfl rfl rfl rfl ?_
   refine pE rfl (WO.nil (ay rfl rfl rfl))
  refine ab rfl rfl (pE rfl (ab rfl rfl (pE rfl (ab rfl rfl (pE rfl (ab rfl rfl ?_))))))
  iterate 2 refine pE rfl ?_
  refine WO.nil (ay rfl rfl rfl)
 refine qs (ao rfl (fun h20=>?_) (fun h20=>?_))
 ·
  refine W.seq (W.region (pE rfl (WO.nil (qs (W.ret (ah (QF.aq trivial rfl ?_)))))))
  simp only[norm,az,List.length_map] at *;grind[bj]
 have h20:¬ (32 < t.cols.length∨20000 < t.rows.length):=by simp only[List.length_map] at h20;intro h;revert h20;grind
 have hq:bj t=if dG t.cols 0 t.cols≠0 then dG t.cols 0 t.cols else ec t.cols t.rows:=by unfold bj;rw[if_neg h20]
 refine W.skip (qs ?_)
 iterate 2 refine W.seq ?_
 refine W.region (pE rfl (pE rfl ?_))
 iterate 2 refine pE rfl ?_
 refine WO.nil (qs (W.block (W.len (t:=22) rfl rfl (fun hlen=>?_))))
 try simp only[List.length_map,Ex.aF] at hlen
 refine W.aS (ι:={x:Nat // match x with | k=>k≤t.cols.length∧dG t.cols k (t.cols.drop k)=dG t.cols 0 t.cols})
  (fun x=>match x.1 with | k=>[(1,.ptr 0 0),(24,.d (.v (.int .i64 ((k:Nat):Int))))]) [(22,_),(23,_)]
  (fun x=>match x.1 with | k=>[]) [(0,_)] [] 1 (fun x=>match x.1 with | k=>t.cols.length - k)
  [0] ⟨0,?_⟩ rfl ?_ ⟨rfl,rfl,rfl,rfl,trivial⟩ ?_ ⟨rfl,rfl,trivial⟩ rfl ?_
 · exact⟨Nat.zero_le _,rfl⟩
 · repeat' first | exact trivial | refine⟨rfl,?_⟩
 · repeat' exact trivial
 rintro⟨k,hk,hI⟩
 show W _ _ _ _ _ ⟨[(1,.ptr 0 0),(24,.d (.v (.int .i64 ((k:Nat):Int)))),(22,_),(23,_)],[(0,_)],[],1⟩
 refine W.seq (W.region (pE rfl (WO.nil (qs (W.seq (a9 (l:=t.cols) (k:=k) rfl (by simp[Ex.aF,aL]) hk (fun x hx hd hlt=>?_) (fun he hd=>?_)))))))
 ·
  rw[hd] at hI
  simp only[dG] at hI
  refine W.skip (qs (W.seq (W.block (W.seq (W.region (pE rfl (pu (indexAddr aa rfl rfl rfl rfl rfl rfl (Int.natCast_nonneg _) (aE hx) rfl) rfl ?_)))))))
  refine pE rfl (a8 aa rfl rfl rfl (pE rfl (aR aa rfl rfl rfl rfl rfl rfl rfl rfl (WO.nil (qs ?_)))))
  iterate 2 refine W.seq ?_
  refine W.region (pE rfl (pE rfl (pu (ak rfl rfl rfl (zE ..) rfl) rfl ?_)))
  refine pE rfl (WO.nil (qs (W.seq (W.region ?_))))
  iterate 2 refine pE rfl ?_
  refine WO.nil (qs (ao rfl (fun h33=>?_) (fun h33=>?_)))
  ·
   have h33:c7 x.name≠0:=by simpa using h33
   have hB:dH t.cols k x=c7 x.name:=by unfold dH;rw[if_pos h33]
   simp only[hB] at hI
   rw[if_pos h33] at hI
   refine W.seq (W.region ?_)
   iterate 2 refine pE rfl ?_
   refine WO.nil (qs (W.ret (ah (au (ah (aZ (au (ah (QF.aq trivial rfl ?_)))))))))
   simp only[norm,az,List.length_map] at *;grind[bj]
  have h33:¬ (c7 x.name≠0):=by simpa using h33
  refine W.skip (qs ?_)
  iterate 2 refine W.seq ?_
  refine W.be aa (by kernel_rfl) ?_
  refine an (ev aa rfl) rfl ?_
  refine an (ev aa rfl) rfl ?_
  refine an (ev aa rfl) rfl ?_
  refine an (vO (fn:=Col.c) aa rfl rfl rfl rfl rfl rfl (fun _=>rfl) (by omega)) rfl ?_
  refine an (build aa rfl rfl rfl rfl) rfl ?_
  refine an (ev aa rfl) rfl ?_
  refine an (ev aa rfl) rfl ?_
  refine an (ak rfl rfl rfl (yC (t.cols.take k) _ x.name) rfl) rfl ?_
  refine an (ev aa rfl) rfl ?_
  refine CH.nil ?_
  refine qs (ao rfl (fun h43=>?_) (fun h43=>?_))
  ·
   have h43:((t.cols.take k).any fun y=>decide (y.name=x.name))=true:=cF.symm.trans h43
   have hB:dH t.cols k x=4:=by unfold dH;rw[if_neg h33,if_pos h43]
   simp only[hB] at hI
   rw[if_pos (by decide)] at hI
   refine W.seq (W.region (pE rfl (WO.nil (qs (W.ret (ah (au (ah (aZ (au (ah (QF.aq trivial rfl ?_))))))))))))
   simp only[norm,az,List.length_map] at *;grind[bj]
  have h43:¬ (((t.cols.take k).any fun y=>decide (y.name=x.name))=true):=by rw[(cF.symm.trans h43:((t.cols.take k).any fun y=>decide (y.name=x.name))=false)];decide
  refine W.skip (qs (W.seq ?_))
  apply aC;(case hb=>rfl)
  ·
   refine pE rfl (pE rfl ?_)
   iterate 2 refine pE rfl ?_
   apply aw;(case hj=>rfl);(case hl=>rfl)
   ·
    refine ab rfl rfl (pE rfl (ab rfl rfl (pE rfl (ab rfl rfl ?_))))
    iterate 3 refine pE rfl ?_
    apply aw;(case hj=>rfl);(case hl=>rfl)
    ·
     refine ab rfl rfl (pE rfl (ab rfl rfl (pE rfl (ab rfl rfl ?_))))
     iterate 2 refine pE rfl ?_
     refine WO.nil (ay rfl rfl rfl)
    iterate 3 refine ar rfl rfl rfl rfl ?_
    refine pE rfl (WO.nil (ay rfl rfl rfl))
   iterate 3 refine ar rfl rfl rfl rfl ?_
   iterate 2 refine pE rfl ?_
   iterate 3 refine ar rfl rfl rfl rfl ?_
   refine pE rfl (WO.nil (ay rfl rfl rfl))
  refine qs (ao rfl (fun h56=>?_) (fun h56=>?_))
  ·
   have h56:x.type≠1∧x.type≠2∧x.type≠3:=by revert h56;grind
   have hB:dH t.cols k x=14:=by unfold dH;rw[if_neg h33,if_neg h43,if_pos h56]
   simp only[hB] at hI
   rw[if_pos (by decide)] at hI
   refine W.seq (W.region (pE rfl (WO.nil (qs (W.ret (au (ah (aZ (au (ah (QF.aq trivial rfl ?_)))))))))))
   simp only[norm,az,List.length_map] at *;grind[bj]
  have h56:¬ (x.type≠1∧x.type≠2∧x.type≠3):=by revert h56;grind
  have hB:dH t.cols k x=0:=by unfold dH;rw[if_neg h33,if_neg h43,if_neg h56]
  simp only[hB] at hI
  rw[if_neg (by decide)] at hI
  refine W.skip (aX (qs (W.region ?_)))
  iterate 2 refine pE rfl ?_
  refine WO.nil (W.aU [0] ⟨k+1,?_⟩ ?_ rfl ?_ ⟨rfl,rfl,rfl,rfl,trivial⟩ ?_ ⟨rfl,rfl,trivial⟩ rfl)
  · exact⟨hlt,by simpa using hI⟩
  · dsimp only;omega
  · repeat' first | exact trivial | refine⟨rfl,?_⟩ | refine⟨aD (by assumption) (by assumption),?_⟩
  repeat' exact trivial
 rw[hd] at hI
 simp only[dG] at hI
 rw[←hI] at hq
 simp only[ne_eq,not_true_eq_false,if_false] at hq
 refine W.exit (aN (aQ (aO (qs ?_))))
 iterate 2 refine W.seq ?_
 refine W.region (pE rfl (pE rfl ?_))
 iterate 2 refine pE rfl ?_
 refine WO.nil (qs (W.block (W.len (t:=59) rfl rfl (fun hlen=>?_))))
 try simp only[List.length_map,Ex.aF] at hlen
 refine W.aS (ι:={x:Nat // match x with | k=>k≤t.rows.length∧ec t.cols (t.rows.drop k)=ec t.cols t.rows})
  (fun x=>match x.1 with | k=>[(1,.ptr 0 0),(61,.d (.v (.int .i64 ((k:Nat):Int))))]) [(59,_),(60,_)]
  (fun x=>match x.1 with | k=>[]) [(0,_)] [] 1 (fun x=>match x.1 with | k=>t.rows.length - k)
  [0] ⟨0,?_⟩ rfl ?_ ⟨rfl,rfl,rfl,rfl,trivial⟩ ?_ ⟨rfl,rfl,trivial⟩ rfl ?_
 · exact⟨Nat.zero_le _,rfl⟩
 · repeat' first | exact trivial | refine⟨rfl,?_⟩
 · repeat' exact trivial
 rintro⟨k,hk,hK⟩
 show W _ _ _ _ _ ⟨[(1,.ptr 0 0),(61,.d (.v (.int .i64 ((k:Nat):Int)))),(59,_),(60,_)],[(0,_)],[],1⟩
 refine W.seq (W.region (pE rfl (WO.nil (qs (W.seq (a9 (l:=t.rows) (k:=k) rfl (by simp[Ex.aF,aL]) hk (fun r hx hd hlt=>?_) (fun he hd=>?_)))))))
 ·
  rw[hd] at hK
  simp only[ec] at hK
  refine W.skip (qs (W.seq (W.block (W.seq (W.region (pu (indexAddr aa rfl rfl rfl rfl rfl rfl (Int.natCast_nonneg _) (aE hx) rfl) rfl ?_))))))
  refine pE rfl (pE rfl (WO.nil (qs ?_)))
  iterate 2 refine W.seq ?_
  refine W.region ?_
  iterate 3 refine pE rfl ?_
  refine pE rfl ?_
  iterate 2 refine pE rfl ?_
  refine WO.nil (qs (ao rfl (fun h70=>?_) (fun h70=>?_)))
  ·
   have h70:r.length≠t.cols.length:=by simp at h70;omega
   rw[if_pos h70] at hK
   refine W.seq (W.region (pE rfl (WO.nil (qs (W.ret (ah (au (ah (aZ (au (ah (QF.aq trivial rfl ?_))))))))))))
   simp only[norm,az,List.length_map] at *;grind[bj]
  have h70:¬ (r.length≠t.cols.length):=by simp at h70 ⊢;omega
  rw[if_neg h70] at hK
  refine W.skip (qs (W.seq (W.region ?_)))
  iterate 3 refine pE rfl ?_
  refine WO.nil (qs (W.block (W.len (t:=71) rfl rfl (fun hlen=>?_))))
  try simp only[List.length_map,Ex.aF] at hlen
  refine W.aS (ι:={x:Nat // match x with | j=>j≤r.length∧c8 (t.cols.drop j) (r.drop j)=c8 t.cols r})
   (fun x=>match x.1 with | j=>[(1,.ptr 0 0),(73,.d (.v (.int .i64 ((j:Nat):Int))))]) [(59,_),(60,_),(61,_),(71,_),(72,_)]
   (fun x=>match x.1 with | j=>[]) [(0,_)] [] 1 (fun x=>match x.1 with | j=>r.length - j)
   [0] ⟨0,?_⟩ rfl ?_ ⟨rfl,rfl,rfl,rfl,rfl,rfl,rfl,rfl,rfl,rfl,trivial⟩ ?_ ⟨rfl,rfl,trivial⟩ rfl ?_
  · exact⟨Nat.zero_le _,rfl⟩
  · repeat' first | exact trivial | refine⟨rfl,?_⟩
  · repeat' exact trivial
  rintro⟨j,hk,hJ⟩
  show W _ _ _ _ _ ⟨[(1,.ptr 0 0),(73,.d (.v (.int .i64 ((j:Nat):Int)))),(59,_),(60,_),(61,_),(71,_),(72,_)],[(0,_)],[],1⟩
  refine W.seq (W.region (pE rfl (WO.nil (qs (W.seq (a9 (l:=r) (k:=j) rfl (by simp[Ex.aF,aL]) hk (fun v hx hd hlt=>?_) (fun he hd=>?_)))))))
  ·
   obtain⟨c,hc,hcd⟩:=nA (l:=t.cols) (k:=j) (by omega)
   rw[hd,hcd] at hJ
   simp only[c8] at hJ
   refine W.skip (qs (W.seq (W.block (W.seq (W.region (pE rfl (pu (indexAddr aa rfl rfl rfl rfl rfl rfl (Int.natCast_nonneg _) (aE hx) rfl) rfl ?_)))))))
   refine pE rfl (a8 aa rfl rfl rfl (pE rfl (aR aa rfl rfl rfl rfl rfl rfl rfl rfl (WO.nil (qs (W.seq (W.be aa (by kernel_rfl) ?_)))))))
   refine an (ev aa rfl) rfl ?_
   refine an (ev aa rfl) rfl ?_
   refine an (ev aa rfl) rfl ?_
   refine an (indexAddr aa rfl rfl rfl rfl rfl rfl (Int.natCast_nonneg _) (aE hc) rfl) rfl ?_
   refine an (ev aa rfl) rfl ?_
   refine an (ev aa rfl) rfl ?_
   refine an (ev aa rfl) rfl ?_
   refine an (ak rfl rfl rfl (sZ c.type v) rfl) rfl ?_
   refine an (ev aa rfl) rfl ?_
   refine CH.nil ?_
   refine qs (W.seq (W.region ?_))
   iterate 2 refine pE rfl ?_
   refine WO.nil (qs (ao rfl (fun h87=>?_) (fun h87=>?_)))
   ·
    have h87:bO c.type v≠0:=by simpa using h87
    rw[if_pos h87] at hJ
    simp only[←hJ] at hK
    rw[if_pos h87] at hK
    refine W.seq (W.region ?_)
    iterate 2 refine pE rfl ?_
    refine WO.nil (qs (W.ret (au (ah (aZ (au (au (ah (aZ (au (ah (QF.aq trivial rfl ?_))))))))))))
    simp only[norm,az,List.length_map] at *;grind[bj]
   rw[if_neg (by simpa using h87)] at hJ
   refine W.skip (aX (qs (W.region ?_)))
   iterate 2 refine pE rfl ?_
   refine WO.nil (W.aU [0] ⟨j+1,?_⟩ ?_ rfl ?_ ⟨rfl,rfl,rfl,rfl,rfl,rfl,rfl,rfl,rfl,rfl,trivial⟩ ?_ ⟨rfl,rfl,trivial⟩ rfl)
   · exact⟨hlt,hJ⟩
   · dsimp only;omega
   · repeat' first | exact trivial | refine⟨rfl,?_⟩ | refine⟨aD (by assumption) (by assumption),?_⟩
   repeat' exact trivial
  have hj0:c8 t.cols r=0:=by rw[←hJ,hd];cases t.cols.drop j <;> rfl
  simp only[hj0] at hK
  rw[if_neg (by decide)] at hK
  refine W.exit (aN (aQ (aO (aX (qs (W.region ?_))))))
  iterate 2 refine pE rfl ?_
  refine WO.nil (W.aU [0] ⟨k+1,?_⟩ ?_ rfl ?_ ⟨rfl,rfl,rfl,rfl,trivial⟩ ?_ ⟨rfl,rfl,trivial⟩ rfl)
  · exact⟨hlt,hK⟩
  · dsimp only;omega
  · repeat' first | exact trivial | refine⟨rfl,?_⟩ | refine⟨aD (by assumption) (by assumption),?_⟩
  repeat' exact trivial
 rw[hd] at hK
 simp only[ec] at hK
 rw[←hK] at hq
 refine W.exit (aN (aQ (aO (qs (W.seq (W.region (pE rfl (WO.nil (qs (W.ret (QF.aq trivial rfl ?_)))))))))))
 simp only[norm,az,List.length_map] at *;grind[bj]
end Go.Proofs.YtjenenllmjlimaaGreat
namespace Go.Proofs.YtjenenllmjlimaaGreat
open Go.Ab Go.Tb
set_option maxRecDepth 10000
attribute [local irreducible] W WO Pu QS QB QL QF QV b7 CH QE
theorem la (l:List Col) (h:l.length≤100000):ax Tryz.prog 70 [.d (.sl (l.map Col.c))] (.own 0 (l.map Col.c)) 1:=by
 refine ax.aT (n:=8) (ts:=[2]) Tryz.func70 (by kernel_rfl) rfl Tryz.ntmps70 Tryz.results70 rfl rfl fun C hC hG=>?_
 refine W.seq (W.region (pE rfl (WO.nil (qs ?_))))
 iterate 2 refine W.seq ?_
 refine W.region (pE rfl (mA aa rfl rfl rfl rfl rfl (fun b4 hb4=>?_)))
 refine WO.nil (qs (ao rfl (fun h4=>?_) (fun h4=>?_)))
 ·
  refine W.seq (W.region (pE rfl (WO.nil (qs ?_))))
  try refine aG (d:=2) rfl rfl ?_
  refine W.ret (ah (QF.lr 0 trivial rfl (by simp) ?_))
  have hl0:=hb4 h4
  rw[hl0];rfl
 refine W.skip (qs (W.seq (W.region (mq aa rfl rfl rfl rfl rfl rfl rfl rfl (by rfl) ?_))))
 refine pE rfl (dn (l:=[]) (fn:=Col.c) aa rfl rfl rfl rfl rfl rfl rfl rfl rfl rfl (fun _=>rfl) (by show(0+l.length)*24≤_;omega) ?_)
 refine pE rfl (WO.nil (qs ?_))
 try refine aG (d:=2) rfl rfl ?_
 refine W.ret (QF.lr 1 trivial rfl (by simp) ?_)
 rfl
theorem rn (cols:List Col) (names:List ByteArray) (h:names.length≤100000):ax Tryz.prog 102 [.d (.sl (cols.map Col.c)),.d (.sl (names.map sc))]
  (.tup [.own 0 ((bA cols [] names).1.map Col.c),.d (.v (.int .i64 (bA cols [] names).2))]) 1:=by
 refine ax.aT (n:=30) (ts:=[4,5]) Tryz.func102 (by kernel_rfl) rfl Tryz.ntmps102 Tryz.results102 rfl rfl fun C hC hG=>?_
 refine W.seq (W.region ?_)
 iterate 2 refine pE rfl ?_
 refine WO.nil (qs (W.seq (W.region (pE rfl (WO.nil (qs ?_))))))
 iterate 2 refine W.seq ?_
 refine W.region ?_
 iterate 3 refine pE rfl ?_
 refine WO.nil (qs (W.block (aG (d:=6) rfl rfl ?_)))
 refine W.len (t:=10) rfl rfl (fun hlen=>?_)
 try simp only[List.length_map,Ex.aF] at hlen
 refine W.aS (ι:={x:Nat×List Col // match x with | (k,out)=>k≤names.length∧bA cols out (names.drop k)=bA cols [] names∧out.length=k})
  (fun x=>match x.1 with | (k,out)=>[(6,.own 0 (out.map Col.c)),(12,.d (.v (.int .i64 ((k:Nat):Int))))]) [(0,_),(10,_),(11,_)]
  (fun x=>match x.1 with | (k,out)=>[]) [] [0] 1 (fun x=>match x.1 with | (k,out)=>names.length - k)
  [0] ⟨(0,[]),?_⟩ rfl ?_ ⟨rfl,rfl,rfl,rfl,rfl,rfl,trivial⟩ ?_ trivial rfl ?_
 · exact⟨Nat.zero_le _,rfl,rfl⟩
 · repeat' first | exact trivial | refine⟨rfl,?_⟩
 · repeat' exact trivial
 rintro⟨⟨k,out⟩,hk,hI,hL⟩
 show W _ _ _ _ _ ⟨[(6,.own 0 (out.map Col.c)),(12,.d (.v (.int .i64 ((k:Nat):Int)))),(0,_),(10,_),(11,_)],[],[0],1⟩
 refine W.seq (W.region (pE rfl (WO.nil (qs (W.seq (a9 (l:=names) (k:=k) rfl (by simp[Ex.aF,aL]) hk (fun x hx hd hlt=>?_) (fun he hd=>?_)))))))
 ·
  rw[hd] at hI
  simp only[bA] at hI
  refine W.skip (qs (W.seq (W.block (W.seq (W.region (pu (indexAddr aa rfl rfl rfl rfl rfl rfl (Int.natCast_nonneg _) (aE hx) rfl) rfl ?_))))))
  refine pE rfl (pE rfl (WO.nil (qs (W.seq (W.region ?_)))))
  iterate 2 refine pE rfl ?_
  refine pu (ak rfl rfl rfl (gJ ..) rfl) rfl ?_
  refine pE rfl (WO.nil (qs ?_))
  iterate 2 refine W.seq ?_
  refine W.region ?_
  iterate 2 refine pE rfl ?_
  refine WO.nil (qs (ao rfl (fun h20=>?_) (fun h20=>?_)))
  ·
   have h5:aY cols x=none:=ee (of_decide_eq_true h20)
   rw[h5] at hI
   refine W.seq (W.region ?_)
   iterate 2 refine pE rfl ?_
   refine WO.nil (qs ?_)
   try refine aG (d:=4) rfl rfl ?_
   refine W.ret (ah (au (ah (aZ (au (ah (QF.lr 1 trivial rfl (by simp) ?_)))))))
   rw[←hI];rfl
  obtain⟨i,c,h3,h4,h5,h6⟩:=ek (of_decide_eq_false h20)
  have h5:aY cols x=some c:=h5
  rw[h5] at hI
  refine W.skip (qs (W.region ?_))
  iterate 3 refine pE rfl ?_
  refine pu (indexAddr aa rfl rfl rfl rfl rfl rfl (i:=idx _) (by rw[h3];exact Int.natCast_nonneg _) (by rw[h3];exact aE h4) rfl) rfl ?_
  refine pE rfl (pu (aI aa rfl rfl rfl rfl rfl rfl rfl rfl rfl) rfl ?_)
  refine bJ (fn:=Col.c) (a:=c) aa rfl rfl rfl rfl rfl rfl rfl rfl rfl rfl (fun _=>rfl) (by show(out.length+1)*24≤_;omega) ?_
  refine pE rfl (WO.nil (aX (qs (W.region ?_))))
  iterate 2 refine pE rfl ?_
  refine WO.nil (W.aU [1] ⟨(k+1,out++[c]),?_⟩ ?_ rfl ?_ ⟨rfl,rfl,rfl,rfl,rfl,rfl,trivial⟩ ?_ trivial rfl)
  · exact⟨hlt,hI,by simp[hL]⟩
  · dsimp only;omega
  · repeat' first | exact trivial | refine⟨rfl,?_⟩ | refine⟨aD (by assumption) (by assumption),?_⟩
  repeat' exact trivial
 rw[hd] at hI
 simp only[bA] at hI
 refine W.exit (aN (aQ (aO (qs (W.seq (W.region ?_))))))
 iterate 3 refine pE rfl ?_
 refine WO.nil (qs ?_)
 try refine aG (d:=4) rfl rfl ?_
 refine W.ret (QF.lr 0 trivial rfl (by simp) ?_)
 rw[←hI];rfl
theorem qH (cols:List Col) (name:ByteArray):ax Tryz.prog 104 [.d (.sl (cols.map Col.c)),.d (.v (.string name))] (.d (.v (.int .i64 (cn cols name)))) 0:=by
 refine ax.aT (n:=19) (ts:=[4]) Tryz.func104 (by kernel_rfl) rfl Tryz.ntmps104 Tryz.results104 rfl rfl fun C hC hG=>?_
 refine W.seq (W.region (pE rfl (WO.nil (qs (W.seq (W.region ?_))))))
 iterate 2 refine pE rfl ?_
 refine pu (ak rfl rfl rfl (gJ ..) rfl) rfl ?_
 refine pE rfl (WO.nil (qs (W.seq (W.block (W.seq (W.region ?_))))))
 iterate 3 refine pE rfl ?_
 refine WO.nil (qs (ao rfl (fun h9=>?_) (fun h9=>?_)))
 ·
  have h5:aY cols name=none:=ee (of_decide_eq_true h9)
  refine W.seq (W.region (pE rfl (WO.nil (qs (W.ret (au (ah (QF.aq trivial rfl ?_))))))))
  simp only[norm,az,cn,h5] <;> simp_all
 obtain⟨i,c,h3,h4,h5,h6⟩:=ek (of_decide_eq_false h9)
 have h5:aY cols name=some c:=h5
 refine W.seq (W.region ?_)
 iterate 2 refine pE rfl ?_
 refine pu (indexAddr aa rfl rfl rfl rfl rfl rfl (i:=idx _) (by rw[h3];exact Int.natCast_nonneg _) (by rw[h3];exact aE h4) rfl) rfl ?_
 refine pE rfl (pE rfl ?_)
 iterate 2 refine pE rfl ?_
 refine WO.nil (qs (ao rfl (fun h12=>?_) (fun h12=>?_)))
 ·
  refine W.seq (W.region (pE rfl (WO.nil (qs (W.ret (au (ah (QF.aq trivial rfl ?_))))))))
  simp only[norm,az,cn,h5] <;> simp_all
 refine W.skip (aX (qs (W.seq (W.region (pE rfl (WO.nil (qs (W.ret (QF.aq trivial rfl ?_)))))))))
 simp only[norm,az,cn,h5] <;> simp_all
theorem uj (cols:List Col) (l:List kE) (h:l.length≤100000) (hv:∀ x∈l,cJ x.e=0):ax Tryz.prog 65 [.d (.sl (cols.map Col.c)),.d (.sl (l.map kE.c))]
  (.tup [.d (.sl ((jF cols [] l).1.map Col.c)),.d (.v (.int .i64 (jF cols [] l).2))]) 0:=by
 refine ax.aT (n:=38) (ts:=[4,5]) Tryz.func65 (by kernel_rfl) rfl Tryz.ntmps65 Tryz.results65 rfl rfl fun C hC hG=>?_
 refine W.seq (W.region ?_)
 iterate 2 refine pE rfl ?_
 refine WO.nil (qs (W.seq (W.region (pE rfl (WO.nil (qs ?_))))))
 iterate 2 refine W.seq ?_
 refine W.region ?_
 iterate 3 refine pE rfl ?_
 refine WO.nil (qs (W.block (aG (d:=6) rfl rfl ?_)))
 refine W.len (t:=11) rfl rfl (fun hlen=>?_)
 try simp only[List.length_map,Ex.aF] at hlen
 refine W.aS (ι:={x:Nat×List Col // match x with | (k,out)=>k≤l.length∧jF cols out (l.drop k)=jF cols [] l∧out.length=k})
  (fun x=>match x.1 with | (k,out)=>[(6,.own 0 (out.map Col.c)),(13,.d (.v (.int .i64 ((k:Nat):Int))))]) [(0,_),(11,_),(12,_)]
  (fun x=>match x.1 with | (k,out)=>[]) [] [0] 1 (fun x=>match x.1 with | (k,out)=>l.length - k)
  [0] ⟨(0,[]),?_⟩ rfl ?_ ⟨rfl,rfl,rfl,rfl,rfl,rfl,trivial⟩ ?_ trivial rfl ?_
 · exact⟨Nat.zero_le _,rfl,rfl⟩
 · repeat' first | exact trivial | refine⟨rfl,?_⟩
 · repeat' exact trivial
 rintro⟨⟨k,out⟩,hk,hI,hL⟩
 show W _ _ _ _ _ ⟨[(6,.own 0 (out.map Col.c)),(13,.d (.v (.int .i64 ((k:Nat):Int)))),(0,_),(11,_),(12,_)],[],[0],1⟩
 refine W.seq (W.region (pE rfl (WO.nil (qs (W.seq (a9 (l:=l) (k:=k) rfl (by simp[Ex.aF,aL]) hk (fun x hx hd hlt=>?_) (fun he hd=>?_)))))))
 ·
  rw[hd] at hI
  simp only[jF] at hI
  refine W.skip (qs (W.seq (W.block (W.seq (W.region (pu (indexAddr aa rfl rfl rfl rfl rfl rfl (Int.natCast_nonneg _) (aE hx) rfl) rfl ?_))))))
  refine pE rfl (a8 aa rfl rfl rfl (aR aa rfl rfl rfl rfl rfl rfl rfl rfl (WO.nil (qs (W.seq (W.region ?_))))))
  iterate 2 refine pE rfl ?_
  refine pE rfl (pu (ak rfl rfl rfl (uc cols x.e (hv x (List.mem_of_getElem? hx))) rfl) rfl ?_)
  iterate 5 refine pE rfl ?_
  refine WO.nil (qs ?_)
  iterate 2 refine W.seq ?_
  refine W.region ?_
  iterate 2 refine pE rfl ?_
  refine WO.nil (qs (ao rfl (fun h25=>?_) (fun h25=>?_)))
  ·
   rw[if_pos (by simpa using h25)] at hI
   refine W.seq (W.region ?_)
   iterate 3 refine pE rfl ?_
   refine WO.nil (qs ?_)
   try refine aG (d:=4) rfl rfl ?_
   refine W.ret (ah (au (ah (aZ (au (ah (QF.aq trivial rfl ?_)))))))
   rw[←hI];rfl
  rw[if_neg (by simpa using h25)] at hI
  refine W.skip (qs ?_)
  iterate 2 refine W.seq ?_
  refine W.region ?_
  iterate 2 refine pE rfl ?_
  refine WO.nil (qs (ao rfl (fun h28=>?_) (fun h28=>?_)))
  ·
   rw[if_pos (by simpa using h28)] at hI
   refine W.seq (W.region ?_)
   iterate 2 refine pE rfl ?_
   refine WO.nil (qs ?_)
   try refine aG (d:=4) rfl rfl ?_
   refine W.ret (ah (au (ah (aZ (au (ah (QF.aq trivial rfl ?_)))))))
   rw[←hI];rfl
  rw[if_neg (by simpa using h28)] at hI
  refine W.skip (qs (W.region ?_))
  iterate 2 refine pE rfl ?_
  refine pE rfl (pE rfl (pu (build aa rfl rfl rfl rfl) rfl ?_))
  refine pu (aI aa rfl rfl rfl rfl rfl rfl rfl rfl rfl) rfl ?_
  refine bJ (fn:=Col.c) (a:=⟨x.name,(cX cols x.e).1⟩) aa rfl rfl rfl rfl rfl rfl rfl rfl rfl rfl (fun _=>rfl) (by show(out.length+1)*24≤_;omega) ?_
  refine pE rfl (WO.nil (aX (qs (W.region ?_))))
  iterate 2 refine pE rfl ?_
  refine WO.nil (W.aU [2] ⟨(k+1,out++[⟨x.name,(cX cols x.e).1⟩]),?_⟩ ?_ rfl ?_ ⟨rfl,rfl,rfl,rfl,rfl,rfl,trivial⟩ ?_ trivial rfl)
  · exact⟨hlt,hI,by simp[hL]⟩
  · dsimp only;omega
  · repeat' first | exact trivial | refine⟨rfl,?_⟩ | refine⟨aD (by assumption) (by assumption),?_⟩
  repeat' exact trivial
 rw[hd] at hI
 simp only[jF] at hI
 refine W.exit (aN (aQ (aO (qs (W.seq (W.region ?_))))))
 iterate 3 refine pE rfl ?_
 refine WO.nil (qs ?_)
 try refine aG (d:=4) rfl rfl ?_
 refine W.ret (QF.aq trivial rfl ?_)
 rw[←hI];rfl
end Go.Proofs.YtjenenllmjlimaaGreat
namespace Go.Proofs.YtjenenllmjlimaaGreat
open Go.Ab Go.Tb
set_option maxRecDepth 10000
attribute [local irreducible] W WO Pu QS QB QL QF QV b7 CH QE
theorem kr (cols:List Col):∀ (names:List ByteArray) (out:List Col),(bA cols out names).1.length≤out.length+names.length
 | [],out=>by simp[bA]
 | s::r,out=>by
  simp only[bA]
  split
  · simp
  have:=kr cols r (out++[‹Col›]);simp at this ⊢;omega
theorem AV (cols:List Col) (s:ByteArray):bA cols [] [s]=(match aY cols s with | none=>([],16) | some c=>([c],0)):=by
 cases h:aY cols s <;> simp[bA,h]
theorem wu (cols:List Col) (s:dK) (h1:s.cols.length≤1000) (h2:s.aggs.length≤1000):ax Tryz.prog 66 [.d (.sl (cols.map Col.c)),.ag s.c]
  (.tup [.d (.sl ((gX cols s).1.map Col.c)),.d (.v (.int .i64 (gX cols s).2))]) 0:=by
 have htl:=kr cols s.cols []
 have hg:gX cols s=gX cols s:=rfl
 conv at hg=>rhs;unfold gX
 refine ax.aT (n:=68) (ts:=[4,5]) Tryz.func66 (by kernel_rfl) rfl Tryz.ntmps66 Tryz.results66 rfl rfl fun C hC hG=>?_
 refine W.seq (W.region (br rfl rfl rfl ?_))
 iterate 2 refine pE rfl ?_
 refine WO.nil (qs (W.seq (W.region ?_)))
 iterate 2 refine pE rfl ?_
 refine pE rfl (fC rfl rfl rfl (rn cols s.cols (by omega)) (by rfl) rfl rfl ?_)
 iterate 5 refine pE rfl ?_
 refine WO.nil (qs ?_)
 iterate 2 refine W.seq ?_
 refine W.region ?_
 iterate 2 refine pE rfl ?_
 refine WO.nil (qs (ao rfl (fun h21=>?_) (fun h21=>?_)))
 ·
  rw[if_pos (by simpa using h21)] at hg
  refine W.seq (W.region ?_)
  iterate 3 refine pE rfl ?_
  refine WO.nil (qs ?_)
  try refine aG (d:=4) rfl rfl ?_
  refine W.ret (ah (QF.aq trivial rfl ?_))
  rw[hg];rfl
 rw[if_neg (by simpa using h21)] at hg
 refine W.skip (qs ?_)
 iterate 2 refine W.seq ?_
 refine W.region (pE rfl (pE rfl ?_))
 iterate 2 refine pE rfl ?_
 refine WO.nil (qs (W.block (W.len (t:=24) rfl rfl (fun hlen=>?_))))
 try simp only[List.length_map,Ex.aF] at hlen
 refine W.aS (ι:={x:Nat×List Col // match x with | (k,out)=>k≤s.aggs.length∧lj cols out (s.aggs.drop k)=lj cols (bA cols [] s.cols).1 s.aggs∧out.length≤1000+k})
  (fun x=>match x.1 with | (k,out)=>[(6,.own 0 (out.map Col.c)),(26,.d (.v (.int .i64 ((k:Nat):Int))))]) [(0,_),(24,_),(25,_)]
  (fun x=>match x.1 with | (k,out)=>[]) [] [0] 1 (fun x=>match x.1 with | (k,out)=>s.aggs.length - k)
  [1] ⟨(0,(bA cols [] s.cols).1),?_⟩ rfl ?_ ⟨rfl,rfl,rfl,rfl,rfl,rfl,trivial⟩ ?_ trivial rfl ?_
 · exact⟨Nat.zero_le _,rfl,by simp at htl;omega⟩
 · repeat' first | exact trivial | refine⟨rfl,?_⟩
 · repeat' exact trivial
 rintro⟨⟨k,out⟩,hk,hI,hL⟩
 show W _ _ _ _ _ ⟨[(6,.own 0 (out.map Col.c)),(26,.d (.v (.int .i64 ((k:Nat):Int)))),(0,_),(24,_),(25,_)],[],[0],1⟩
 refine W.seq (W.region (pE rfl (WO.nil (qs (W.seq (a9 (l:=s.aggs) (k:=k) rfl (by simp[Ex.aF,aL]) hk (fun x hx hd hlt=>?_) (fun he hd=>?_)))))))
 ·
  rw[hd] at hI
  simp only[lj] at hI
  refine W.skip (qs (W.seq (W.block (W.seq (W.region (pu (indexAddr aa rfl rfl rfl rfl rfl rfl (Int.natCast_nonneg _) (aE hx) rfl) rfl ?_))))))
  refine pE rfl (a8 aa rfl rfl rfl (aR aa rfl rfl rfl rfl rfl rfl rfl rfl (WO.nil (qs (W.seq (W.region (pE rfl (pE rfl (pu (build aa rfl rfl rfl rfl) rfl ?_)))))))))
  refine a8 aa rfl rfl rfl (aR aa rfl rfl rfl rfl rfl rfl rfl rfl (WO.nil (qs ?_)))
  iterate 2 refine W.seq ?_
  refine W.region (pE rfl (pE rfl (pE rfl (WO.nil (qs (ao rfl (fun h35=>?_) (fun h35=>?_)))))))
  ·
   have h35:¬ (x.fn=fB):=by simpa [fB] using h35
   rw[if_neg h35] at hI
   have ht1:=AV cols x.col
   refine W.seq (W.region ?_)
   iterate 2 refine pE rfl ?_
   refine pE rfl (pu (aI aa rfl rfl rfl rfl rfl rfl rfl rfl rfl) rfl ?_)
   refine fC rfl rfl rfl (rn cols [x.col] (by simp)) (by rfl) rfl rfl ?_
   iterate 5 refine pE rfl ?_
   refine WO.nil (qs ?_)
   iterate 2 refine W.seq ?_
   refine W.region ?_
   iterate 2 refine pE rfl ?_
   refine WO.nil (qs (ao rfl (fun h45=>?_) (fun h45=>?_)))
   ·
    have h5:aY cols x.col=none:=by cases hf:aY cols x.col with | none=>rfl | some c=>rw[hf] at ht1;rw[ht1] at h45;simp at h45
    rw[h5] at hI ht1
    rw[ht1]
    refine W.seq (W.region ?_)
    iterate 3 refine pE rfl ?_
    refine WO.nil (qs ?_)
    try refine aG (d:=4) rfl rfl ?_
    refine W.ret (ah (ah (au (ah (aZ (au (ah (QF.aq trivial rfl ?_))))))))
    rw[hg,←hI];rfl
   obtain⟨c,h5⟩:∃ c,aY cols x.col=some c:=by cases hf:aY cols x.col with | none=>rw[hf] at ht1;rw[ht1] at h45;simp at h45 | some c=>exact⟨c,rfl⟩
   rw[h5] at hI ht1
   simp only at hI
   rw[ht1]
   refine W.skip (qs ?_)
   iterate 2 refine W.seq ?_
   apply aC;(case hb=>rfl)
   ·
    refine pE rfl (pE rfl ?_)
    iterate 2 refine pE rfl ?_
    apply aw;(case hj=>rfl);(case hl=>rfl)
    ·
     refine ab rfl rfl (pE rfl (ab rfl rfl (pu (indexAddr aa rfl rfl rfl rfl rfl rfl (i:=0) (by omega) (show([c].map Col.c)[((0:Int)).toNat]? = some c.c from rfl) rfl) rfl ?_)))
     refine ab rfl rfl (pE rfl (ab rfl rfl (pE rfl (ab rfl rfl ?_))))
     iterate 2 refine pE rfl ?_
     refine WO.nil (ay rfl rfl rfl)
    iterate 5 refine ar rfl rfl rfl rfl ?_
    refine pE rfl (WO.nil (ay rfl rfl rfl))
   refine qs (ao rfl (fun h56=>?_) (fun h56=>?_))
   ·
    have h56:x.fn=jZ∧c.type≠2:=by revert h56;simp only[jZ];by_cases q:x.fn=B #[115,117,109] <;> simp[q]
    rw[if_pos h56] at hI
    refine W.seq (W.region ?_)
    iterate 2 refine pE rfl ?_
    refine WO.nil (qs ?_)
    try refine aG (d:=4) rfl rfl ?_
    refine W.ret (ah (ah (au (ah (aZ (au (ah (QF.aq trivial rfl ?_))))))))
    rw[hg,←hI];rfl
   have h56:¬ (x.fn=jZ∧c.type≠2):=by revert h56;simp only[jZ];by_cases q:x.fn=B #[115,117,109] <;> simp[q]
   rw[if_neg h56] at hI
   refine W.skip (qs (W.region (pE rfl (pu (indexAddr aa rfl rfl rfl rfl rfl rfl (i:=0) (by omega) (show([c].map Col.c)[((0:Int)).toNat]? = some c.c from rfl) rfl) rfl ?_))))
   refine pE rfl (pE rfl (pE rfl (aR aa rfl rfl rfl rfl rfl rfl rfl rfl (WO.nil (qs (W.region (pE rfl (pE rfl (pu (aI aa rfl rfl rfl rfl rfl rfl rfl rfl rfl) rfl ?_)))))))))
   refine bJ (fn:=Col.c) (a:=⟨x.name,c.type⟩) aa rfl rfl rfl rfl rfl rfl rfl rfl rfl rfl (fun _=>rfl) (by show(out.length+1)*24≤_;omega) ?_
   refine pE rfl (WO.nil (aX (qs (W.region ?_))))
   iterate 2 refine pE rfl ?_
   refine WO.nil (W.aU [4] ⟨(k+1,out++[⟨x.name,c.type⟩]),?_⟩ ?_ rfl ?_ ⟨rfl,rfl,rfl,rfl,rfl,rfl,trivial⟩ ?_ trivial rfl)
   · exact⟨hlt,hI,by simp;omega⟩
   · dsimp only;omega
   · repeat' first | exact trivial | refine⟨rfl,?_⟩ | refine⟨aD (by assumption) (by assumption),?_⟩
   repeat' exact trivial
  have h35:x.fn=fB:=by simpa [fB] using h35
  rw[if_pos h35] at hI
  refine W.skip (qs (W.region (pE rfl (pE rfl (pu (aI aa rfl rfl rfl rfl rfl rfl rfl rfl rfl) rfl ?_)))))
  refine bJ (fn:=Col.c) (a:=⟨x.name,2⟩) aa rfl rfl rfl rfl rfl rfl rfl rfl rfl rfl (fun _=>rfl) (by show(out.length+1)*24≤_;omega) ?_
  refine pE rfl (WO.nil (aX (qs (W.region ?_))))
  iterate 2 refine pE rfl ?_
  refine WO.nil (W.aU [3] ⟨(k+1,out++[⟨x.name,2⟩]),?_⟩ ?_ rfl ?_ ⟨rfl,rfl,rfl,rfl,rfl,rfl,trivial⟩ ?_ trivial rfl)
  · exact⟨hlt,hI,by simp;omega⟩
  · dsimp only;omega
  · repeat' first | exact trivial | refine⟨rfl,?_⟩ | refine⟨aD (by assumption) (by assumption),?_⟩
  repeat' exact trivial
 rw[hd] at hI
 simp only[lj] at hI
 refine W.exit (aN (aQ (aO (qs (W.seq (W.region ?_))))))
 iterate 3 refine pE rfl ?_
 refine WO.nil (qs ?_)
 try refine aG (d:=4) rfl rfl ?_
 refine W.ret (QF.aq trivial rfl ?_)
 rw[hg,←hI];rfl
end Go.Proofs.YtjenenllmjlimaaGreat
namespace Go.Proofs.YtjenenllmjlimaaGreat
open Go.Ab Go.Tb
set_option maxRecDepth 10000
attribute [local irreducible] W WO Pu QS QB QL QF QV b7 CH QE
def pV (cols:List Col):List Col→List ByteArray→CT
 | out,[]=>(out,0)
 | out,s::r=>if cn cols s≠0 then ([],cn cols s) else pV cols (out++[⟨s,2⟩]) r
theorem x3 (cols:List Col) (s:dK) (h:¬ ((s.cols.any (fun x=>decide (aP=x)) || s.cols.any (fun x=>decide (bp=x)))=true)) (h2:(bA cols [] s.cols).2=0):ff cols s=pV cols (bA cols [] s.cols).1 [aP,bp]:=by
 unfold ff
 rw[if_neg h,if_neg (by simp[h2])]
 simp only[pV]
 by_cases h3:cn cols aP=0 <;> by_cases h4:cn cols bp=0 <;> simp[h3,h4]
theorem sS (cols:List Col) (s:dK) (h1:s.cols.length≤1000):ax Tryz.prog 68 [.d (.sl (cols.map Col.c)),.ag s.c]
  (.tup [.d (.sl ((ff cols s).1.map Col.c)),.d (.v (.int .i64 (ff cols s).2))]) 0:=by
 have htl:=kr cols s.cols []
 refine ax.aT (n:=48) (ts:=[4,5]) Tryz.func68 (by kernel_rfl) rfl Tryz.ntmps68 Tryz.results68 rfl rfl fun C hC hG=>?_
 refine W.seq (W.region (br rfl rfl rfl ?_))
 iterate 2 refine pE rfl ?_
 refine WO.nil (qs ?_)
 iterate 2 refine W.seq ?_
 apply aC;(case hb=>rfl)
 ·
  refine pE rfl (pE rfl (pu (ak rfl rfl rfl (eA s.cols aP) rfl) rfl ?_))
  refine pE rfl ?_
  apply aw;(case hj=>rfl);(case hl=>rfl)
  ·
   iterate 3 refine ar rfl rfl rfl rfl ?_
   refine pE rfl (WO.nil (ay rfl rfl rfl))
  refine ab rfl rfl (pE rfl (ab rfl rfl (pE rfl (ab rfl rfl (pu (ak rfl rfl rfl (eA s.cols bp) rfl) rfl ?_)))))
  refine pE rfl (WO.nil (ay rfl rfl rfl))
 refine qs (ao rfl (fun h18=>?_) (fun h18=>?_))
 ·
  have h18:(s.cols.any (fun x=>decide (aP=x)) || s.cols.any (fun x=>decide (bp=x)))=true:=by revert h18;generalize s.cols.any (fun x=>decide (aP=x))=a;generalize s.cols.any (fun x=>decide (bp=x))=b;cases a <;> cases b <;> simp
  have hg:ff cols s=([],4):=by unfold ff;rw[if_pos h18]
  refine W.seq (W.region ?_)
  iterate 2 refine pE rfl ?_
  refine WO.nil (qs ?_)
  try refine aG (d:=4) rfl rfl ?_
  refine W.ret (ah (QF.aq trivial rfl ?_))
  rw[hg];rfl
 have h18:¬ ((s.cols.any (fun x=>decide (aP=x)) || s.cols.any (fun x=>decide (bp=x)))=true):=by revert h18;generalize s.cols.any (fun x=>decide (aP=x))=a;generalize s.cols.any (fun x=>decide (bp=x))=b;cases a <;> cases b <;> simp
 refine W.skip (qs (W.seq (W.region ?_)))
 iterate 2 refine pE rfl ?_
 refine pE rfl (fC rfl rfl rfl (rn cols s.cols (by omega)) (by rfl) rfl rfl ?_)
 iterate 5 refine pE rfl ?_
 refine WO.nil (qs ?_)
 iterate 2 refine W.seq ?_
 refine W.region ?_
 iterate 2 refine pE rfl ?_
 refine WO.nil (qs (ao rfl (fun h27=>?_) (fun h27=>?_)))
 ·
  have h27:(bA cols [] s.cols).2≠0:=by simpa using h27
  have hg:ff cols s=([],(bA cols [] s.cols).2):=by unfold ff;rw[if_neg h18,if_pos h27]
  refine W.seq (W.region ?_)
  iterate 3 refine pE rfl ?_
  refine WO.nil (qs ?_)
  try refine aG (d:=4) rfl rfl ?_
  refine W.ret (ah (QF.aq trivial rfl ?_))
  rw[hg];rfl
 have h27:(bA cols [] s.cols).2=0:=by simpa using h27
 have hg:=x3 cols s h18 h27
 generalize hT:pV cols (bA cols [] s.cols).1 [aP,bp]=TT at hg
 refine W.skip (qs ?_)
 iterate 2 refine W.seq ?_
 refine W.region (pu (aI (es:=[aP,bp].map sc) aa rfl rfl rfl rfl rfl rfl rfl rfl rfl) rfl ?_)
 iterate 2 refine pE rfl ?_
 refine WO.nil (qs (W.block (W.len (t:=29) rfl rfl (fun hlen=>?_))))
 try simp only[List.length_map,Ex.aF] at hlen
 refine W.aS (ι:={x:Nat×List Col // match x with | (k,out)=>k≤[aP,bp].length∧pV cols out ([aP,bp].drop k)=TT∧out.length≤1000+k})
  (fun x=>match x.1 with | (k,out)=>[(6,.own 0 (out.map Col.c)),(31,.d (.v (.int .i64 ((k:Nat):Int))))]) [(0,_),(29,_),(30,_)]
  (fun x=>match x.1 with | (k,out)=>[]) [] [0] 1 (fun x=>match x.1 with | (k,out)=>[aP,bp].length - k)
  [1] ⟨(0,(bA cols [] s.cols).1),?_⟩ rfl ?_ ⟨rfl,rfl,rfl,rfl,rfl,rfl,trivial⟩ ?_ trivial rfl ?_
 · exact⟨Nat.zero_le _,hT,by simp at htl;omega⟩
 · repeat' first | exact trivial | refine⟨rfl,?_⟩
 · repeat' exact trivial
 rintro⟨⟨k,out⟩,hk,hI,hL⟩
 show W _ _ _ _ _ ⟨[(6,.own 0 (out.map Col.c)),(31,.d (.v (.int .i64 ((k:Nat):Int)))),(0,_),(29,_),(30,_)],[],[0],1⟩
 refine W.seq (W.region (pE rfl (WO.nil (qs (W.seq (a9 (l:=[aP,bp]) (k:=k) rfl (by simp[Ex.aF,aL]) hk (fun x hx hd hlt=>?_) (fun he hd=>?_)))))))
 ·
  rw[hd] at hI
  simp only[pV] at hI
  have hlt2:k < 2:=hlt
  refine W.skip (qs (W.seq (W.block (W.seq (W.region (pu (indexAddr (es:=[aP,bp].map sc) aa rfl rfl rfl rfl rfl rfl (Int.natCast_nonneg _) (aE hx) rfl) rfl ?_))))))
  refine pE rfl (pE rfl (WO.nil (qs ?_)))
  iterate 2 refine W.seq ?_
  refine W.region ?_
  iterate 2 refine pE rfl ?_
  refine pu (ak rfl rfl rfl (qH cols x) rfl) rfl ?_
  refine pE rfl (WO.nil (qs (W.seq (W.region ?_))))
  iterate 2 refine pE rfl ?_
  refine WO.nil (qs (ao rfl (fun h39=>?_) (fun h39=>?_)))
  ·
   rw[if_pos (by simpa using h39)] at hI
   refine W.seq (W.region ?_)
   iterate 3 refine pE rfl ?_
   refine WO.nil (qs ?_)
   try refine aG (d:=4) rfl rfl ?_
   refine W.ret (ah (au (ah (aZ (au (ah (QF.aq trivial rfl ?_)))))))
   rw[hg,←hI];rfl
  rw[if_neg (by simpa using h39)] at hI
  refine W.skip (qs (W.region ?_))
  iterate 2 refine pE rfl ?_
  refine pu (build aa rfl rfl rfl rfl) rfl ?_
  refine pu (aI aa rfl rfl rfl rfl rfl rfl rfl rfl rfl) rfl ?_
  refine bJ (fn:=Col.c) (a:=⟨x,2⟩) aa rfl rfl rfl rfl rfl rfl rfl rfl rfl rfl (fun _=>rfl) (by show(out.length+1)*24≤_;omega) ?_
  refine pE rfl (WO.nil (aX (qs (W.region ?_))))
  iterate 2 refine pE rfl ?_
  refine WO.nil (W.aU [1] ⟨(k+1,out++[⟨x,2⟩]),?_⟩ ?_ rfl ?_ ⟨rfl,rfl,rfl,rfl,rfl,rfl,trivial⟩ ?_ trivial rfl)
  · exact⟨hlt,hI,by simp;omega⟩
  · dsimp only;omega
  · repeat' first | exact trivial | refine⟨rfl,?_⟩ | refine⟨aD (by assumption) (by assumption),?_⟩
  repeat' exact trivial
 rw[hd] at hI
 simp only[pV] at hI
 refine W.exit (aN (aQ (aO (qs (W.seq (W.region ?_))))))
 iterate 3 refine pE rfl ?_
 refine WO.nil (qs ?_)
 try refine aG (d:=4) rfl rfl ?_
 refine W.ret (QF.aq trivial rfl ?_)
 rw[hg,←hI];rfl
theorem wj (n:ByteArray) (s:dK):ax Tryz.prog 107 [.d (.v (.string n)),.row (s.c.map A.d)] (.d (.v (.bool (s.cols.any fun x=>decide (n=x))))) 0:=by
 refine ax.aT (n:=8) (ts:=[3]) Tryz.func107 (by kernel_rfl) rfl Tryz.ntmps107 Tryz.results107 rfl rfl fun C hC hG=>?_
 refine W.seq (W.region (pE rfl (WO.nil (qs (W.seq (W.region (pE rfl (pE rfl (pE rfl (pu (ak rfl rfl rfl (eA s.cols n) rfl) rfl ?_))))))))))
 refine pE rfl (WO.nil (qs (W.ret (QF.aq trivial rfl ?_))))
 rfl
end Go.Proofs.YtjenenllmjlimaaGreat
namespace Go.Proofs.YtjenenllmjlimaaGreat
open Go.Ab Go.Tb
set_option maxRecDepth 10000
attribute [local irreducible] W WO Pu QS QB QL QF QV b7 CH QE
def ig (spans:List ByteArray):List (List Col)→Int
 | []=>0
 | c::r=>if cZ c spans≠0 then cZ c spans else ig spans r
theorem xL (cols right:List Col) (s:dK):kF cols right s =
  if (aM s.op).any (fun n=>s.cols.any fun x=>decide (n=x)) then ([],4)
  else if ew cols right s.cols≠0 then ([],ew cols right s.cols)
  else if ig (aM s.op) [cols,right]≠0 then ([],ig (aM s.op) [cols,right])
  else tG (cols++dm s.cols (aM s.op) right):=by
 unfold kF
 simp only[ig]
 by_cases h1:cZ cols (aM s.op)=0 <;> by_cases h2:cZ right (aM s.op)=0 <;> simp[h1,h2]
@[reducible] def lc (c:List Col):List D:=[.sl (c.map Col.c)]
theorem so {d:List iH} {name:ByteArray} {t:bo} (h:dk d name=some t):∃ x∈d,x.table=t:=by
 unfold dk at h
 cases hf:d.find? (fun x=>decide (x.name=name)) with
 | none=>rw[hf] at h;cases h
 | some x=>rw[hf] at h;exact⟨x,List.mem_of_find?_eq_some hf,Option.some.inj h⟩
theorem qc {a b:List Col} {x:ByteArray} {r:List ByteArray} (h:aY a x=none∨aY b x=none):ew a b (x::r)=16:=by
 simp only[ew]
 rcases h with h | h
 · rw[h]
 rw[h];cases aY a x <;> rfl
theorem qQ {a b:List Col} {x:ByteArray} {r:List ByteArray} {c e:Col} (h:aY a x=some c) (h':aY b x=some e):ew a b (x::r)=if c.type≠e.type then 14 else ew a b r:=by
 simp only[ew,h,h']
theorem oh (d:List iH) (cols:List Col) (s:dK) (hc:cols.length≤1000) (hd1:∀ x∈d,x.table.cols.length≤1000):ax Tryz.prog 69 [.d (.sl (d.map iH.c)),.d (.sl (cols.map Col.c)),.ag s.c]
  (.tup [.d (.sl ((gF d cols s).1.map Col.c)),.d (.v (.int .i64 (gF d cols s).2))]) 0:=by
 refine ax.aT (n:=149) (ts:=[6,7]) Tryz.func69 (by kernel_rfl) rfl Tryz.ntmps69 Tryz.results69 rfl rfl fun C hC hG=>?_
 refine W.seq (W.region (br rfl rfl rfl ?_))
 iterate 2 refine pE rfl ?_
 refine WO.nil (qs (W.seq ?_))
 obtain⟨p,q,hpq⟩:=uK (dk d s.table)
 have hf:=y6 d s.table
 rw[hpq] at hf
 refine W.region ?_
 iterate 2 refine pE rfl ?_
 refine pE rfl (pu (ak rfl rfl rfl hf rfl) rfl ?_)
 iterate 3 refine pE rfl ?_
 refine a8 aa rfl rfl rfl (aR aa rfl rfl rfl rfl rfl rfl rfl rfl (pE rfl (WO.nil (qs ?_))))
 iterate 2 refine W.seq ?_
 refine W.region ?_
 iterate 2 refine pE rfl ?_
 refine WO.nil (qs (ao rfl (fun h33=>?_) (fun h33=>?_)))
 ·
  have hg:gF d cols s=([],17):=by cases hq:dk d s.table with | none=>simp[gF,hq] | some t=>rw[hq] at h33;simp at h33
  refine W.seq (W.region ?_)
  iterate 2 refine pE rfl ?_
  refine WO.nil (qs ?_)
  try refine aG (d:=6) rfl rfl ?_
  refine W.ret (ah (QF.aq trivial rfl ?_))
  rw[hg];rfl
 obtain⟨t,ht⟩:∃ t,dk d s.table=some t:=by cases hq:dk d s.table with | none=>rw[hq] at h33;simp at h33 | some t=>exact⟨t,rfl⟩
 have hg:gF d cols s=kF cols t.cols s:=by simp[gF,ht]
 rw[xL] at hg
 have htc:t.cols.length≤1000:=by obtain⟨x,hx,rfl⟩:=so ht;exact hd1 x hx
 rw[ht] at hpq
 simp only[om,bo.c,List.cons.injEq,and_true] at hpq
 obtain⟨rfl,rfl⟩:=hpq
 refine W.skip (qs (W.seq (W.region (pE rfl (WO.nil (qs ?_))))))
 iterate 2 refine W.seq ?_
 refine W.region (pE rfl (pE rfl (WO.nil (qs (W.we [(5,.ptr 0 0),(8,.ptr 1 0),(10,.d (.sl ((aM s.op).map sc)))] [1] [] [0,1] [] 2 ?_ ?_)))))
 ·
  refine W.block (W.seq (W.region ?_))
  iterate 2 refine pE rfl ?_
  refine WO.nil (qs (ao rfl (fun h36=>?_) (fun h36=>?_)))
  ·
   have h36:s.op=7:=by simpa using h36
   have hsp:aM s.op=[aP,bp]:=by simp[aM,h36]
   refine W.region (pu (aI aa rfl rfl rfl rfl rfl rfl rfl rfl rfl) rfl ?_)
   refine pE rfl (WO.nil (aX (jQ [0,1] rfl ?_ ⟨rfl,rfl,trivial⟩ ?_ ⟨rfl,rfl,rfl,rfl,trivial⟩ rfl)))
   · rw[hsp];exact⟨rfl,rfl,rfl,trivial⟩
   repeat' exact trivial
  have h36:¬ s.op=7:=by simpa using h36
  refine W.seq (W.region ?_)
  iterate 2 refine pE rfl ?_
  refine WO.nil (qs (ao rfl (fun h39=>?_) (fun h39=>?_)))
  ·
   have h39:s.op=8:=by simpa using h39
   have hsp:aM s.op=[aP]:=by simp[aM,h39]
   refine W.region (pu (aI aa rfl rfl rfl rfl rfl rfl rfl rfl rfl) rfl ?_)
   refine pE rfl (WO.nil (aX (jQ [0,1] rfl ?_ ⟨rfl,rfl,trivial⟩ ?_ ⟨rfl,rfl,rfl,rfl,trivial⟩ rfl)))
   · rw[hsp];exact⟨rfl,rfl,rfl,trivial⟩
   repeat' exact trivial
  have h39:¬ s.op=8:=by simpa using h39
  have hsp:aM s.op=[]:=by simp[aM,h36,h39]
  refine yS (t:=10) rfl ?_
  refine W.skip (aX (jQ [0,1] rfl ?_ ⟨rfl,rfl,trivial⟩ ?_ ⟨rfl,rfl,rfl,rfl,trivial⟩ rfl))
  · rw[hsp];exact⟨rfl,rfl,rfl,trivial⟩
  repeat' exact trivial
 refine qs ?_
 iterate 2 refine W.seq ?_
 refine W.region ?_
 iterate 2 refine pE rfl ?_
 refine pu (ak rfl rfl rfl (rJ _ _ ⟨fun _ _=>rfl,rfl⟩ _ (fun n=>wj n s) (aM s.op)) rfl) rfl ?_
 refine WO.nil (qs (ao rfl (fun h44=>?_) (fun h44=>?_)))
 ·
  rw[if_pos h44] at hg
  refine W.seq (W.region ?_)
  iterate 2 refine pE rfl ?_
  refine WO.nil (qs ?_)
  try refine aG (d:=6) rfl rfl ?_
  refine W.ret (ah (QF.aq trivial rfl ?_))
  rw[hg];rfl
 rw[if_neg (by rw[h44];decide)] at hg
 refine W.skip (qs ?_)
 iterate 2 refine W.seq ?_
 refine W.region (pE rfl (pE rfl ?_))
 iterate 2 refine pE rfl ?_
 refine WO.nil (qs (W.block (W.len (t:=46) rfl rfl (fun hlen=>?_))))
 try simp only[List.length_map,Ex.aF] at hlen
 refine W.aS (ι:={x:Nat // match x with | k=>k≤s.cols.length∧ew cols t.cols (s.cols.drop k)=ew cols t.cols s.cols})
  (fun x=>match x.1 with | k=>[(5,.ptr 0 0),(8,.ptr 1 0),(48,.d (.v (.int .i64 ((k:Nat):Int))))]) [(1,_),(10,_),(46,_),(47,_)]
  (fun x=>match x.1 with | k=>[]) [(0,_),(1,_)] [] 2 (fun x=>match x.1 with | k=>s.cols.length - k)
  [0,1] ⟨0,?_⟩ rfl ?_ ⟨rfl,rfl,rfl,rfl,rfl,rfl,rfl,rfl,trivial⟩ ?_ ⟨rfl,rfl,rfl,rfl,trivial⟩ rfl ?_
 · exact⟨Nat.zero_le _,rfl⟩
 · repeat' first | exact trivial | refine⟨rfl,?_⟩
 · repeat' exact trivial
 rintro⟨k,hk,hI⟩
 show W _ _ _ _ _ ⟨[(5,.ptr 0 0),(8,.ptr 1 0),(48,.d (.v (.int .i64 ((k:Nat):Int)))),(1,_),(10,_),(46,_),(47,_)],[(0,_),(1,_)],[],2⟩
 refine W.seq (W.region (pE rfl (WO.nil (qs (W.seq (a9 (l:=s.cols) (k:=k) rfl (by simp[Ex.aF,aL]) hk (fun x hx hd hlt=>?_) (fun he hd=>?_)))))))
 ·
  rw[hd] at hI
  refine W.skip (qs (W.seq (W.block (W.seq (W.region (pu (indexAddr aa rfl rfl rfl rfl rfl rfl (Int.natCast_nonneg _) (aE hx) rfl) rfl ?_))))))
  refine pE rfl (pE rfl (WO.nil (qs (W.seq (W.be aa (by kernel_rfl) ?_)))))
  iterate 2 refine an (ev aa rfl) rfl ?_
  refine an (ak rfl rfl rfl (gJ ..) rfl) rfl ?_
  refine an (ev aa rfl) rfl ?_
  refine an (ev aa rfl) rfl ?_
  refine an (ev aa rfl) rfl ?_
  refine an (ak rfl rfl rfl (gJ ..) rfl) rfl ?_
  iterate 2 refine an (ev aa rfl) rfl ?_
  refine CH.nil ?_
  refine qs (W.block (W.seq ?_))
  apply aC;(case hb=>rfl)
  ·
   iterate 3 refine pE rfl ?_
   apply aw;(case hj=>rfl);(case hl=>rfl)
   ·
    iterate 2 refine ar rfl rfl rfl rfl ?_
    iterate 2 refine pE rfl ?_
    refine WO.nil (ay rfl rfl rfl)
   refine ab rfl rfl (pE rfl (ab rfl rfl ?_))
   iterate 3 refine pE rfl ?_
   refine WO.nil (ay rfl rfl rfl)
  refine qs (ao rfl (fun h59=>?_) (fun h59=>?_))
  ·
   have h5:aY cols x=none∨aY t.cols x=none:=by
    by_cases q1:idx (cols.findIdx? fun c=>decide (c.name=x)) < 0
    · exact .inl (ee q1)
    refine .inr (ee ?_)
    revert h59
    simp[q1]
   rw[qc h5] at hI
   rw[←hI,if_pos (by decide)] at hg
   refine W.seq (W.region ?_)
   iterate 2 refine pE rfl ?_
   refine WO.nil (qs ?_)
   try refine aG (d:=6) rfl rfl ?_
   refine W.ret (au (au (ah (aZ (au (ah (QF.aq trivial rfl ?_)))))))
   rw[hg];rfl
  have h59':¬ (idx (cols.findIdx? fun c=>decide (c.name=x)) < 0)∧¬ (idx (t.cols.findIdx? fun c=>decide (c.name=x)) < 0):=by
   revert h59
   generalize idx (cols.findIdx? fun c=>decide (c.name=x))=u
   generalize idx (t.cols.findIdx? fun c=>decide (c.name=x))=v
   by_cases q1:u < 0 <;> by_cases q2:v < 0 <;> simp[q1,q2]
  obtain⟨i,a,a3,a4,a5,a6⟩:=ek h59'.1
  obtain⟨j,b,b3,b4,b5,b6⟩:=ek h59'.2
  rw[qQ (c:=a) (e:=b) a5 b5] at hI
  refine W.seq (W.be aa (by kernel_rfl) ?_)
  iterate 2 refine an (ev aa rfl) rfl ?_
  refine an (indexAddr aa rfl rfl rfl rfl rfl rfl (i:=idx _) (by rw[a3];exact Int.natCast_nonneg _) (by rw[a3];exact aE a4) rfl) rfl ?_
  refine an (ev aa rfl) rfl ?_
  refine an (ev aa rfl) rfl ?_
  refine an (ev aa rfl) rfl ?_
  refine an (ev aa rfl) rfl ?_
  refine an (ev aa rfl) rfl ?_
  refine an (indexAddr aa rfl rfl rfl rfl rfl rfl (i:=idx _) (by rw[b3];exact Int.natCast_nonneg _) (by rw[b3];exact aE b4) rfl) rfl ?_
  refine an (ev aa rfl) rfl ?_
  refine an (ev aa rfl) rfl ?_
  iterate 2 refine an (ev aa rfl) rfl ?_
  refine CH.nil ?_
  refine qs (ao rfl (fun h66=>?_) (fun h66=>?_))
  ·
   have h66:a.type≠b.type:=by simpa using h66
   rw[if_pos h66] at hI
   rw[←hI,if_pos (by decide)] at hg
   refine W.seq (W.region ?_)
   iterate 2 refine pE rfl ?_
   refine WO.nil (qs ?_)
   try refine aG (d:=6) rfl rfl ?_
   refine W.ret (au (au (ah (aZ (au (ah (QF.aq trivial rfl ?_)))))))
   rw[hg];rfl
  have h66:¬ (a.type≠b.type):=by simpa using h66
  rw[if_neg h66] at hI
  refine W.skip (aX (aX (qs (W.region ?_))))
  iterate 2 refine pE rfl ?_
  refine WO.nil (W.aU [0,1] ⟨k+1,?_⟩ ?_ rfl ?_ ⟨rfl,rfl,rfl,rfl,rfl,rfl,rfl,rfl,trivial⟩ ?_ ⟨rfl,rfl,rfl,rfl,trivial⟩ rfl)
  · exact⟨hlt,hI⟩
  · dsimp only;omega
  · repeat' first | exact trivial | refine⟨rfl,?_⟩ | refine⟨aD (by assumption) (by assumption),?_⟩
  repeat' exact trivial
 rw[hd] at hI
 simp only[ew] at hI
 rw[←hI] at hg
 simp only[ne_eq,not_true_eq_false,if_false] at hg
 generalize hS:ig (aM s.op) [cols,t.cols]=SS at hg
 refine W.exit (aN (aQ (aO (qs ?_))))
 iterate 2 refine W.seq ?_
 refine W.region ?_
 iterate 2 refine pE rfl ?_
 refine pE rfl (pu (aI (es:=[cols,t.cols].map lc) aa rfl rfl rfl rfl rfl rfl rfl rfl rfl) rfl ?_)
 iterate 2 refine pE rfl ?_
 refine WO.nil (qs (W.block (W.len (t:=83) rfl rfl (fun hlen=>?_))))
 try simp only[List.length_map,Ex.aF] at hlen
 refine W.aS (ι:={x:Nat // match x with | k=>k≤[cols,t.cols].length∧ig (aM s.op) ([cols,t.cols].drop k)=SS})
  (fun x=>match x.1 with | k=>[(5,.ptr 0 0),(8,.ptr 1 0),(85,.d (.v (.int .i64 ((k:Nat):Int))))]) [(1,_),(10,_),(83,_),(84,_)]
  (fun x=>match x.1 with | k=>[]) [(0,_),(1,_)] [] 2 (fun x=>match x.1 with | k=>[cols,t.cols].length - k)
  [0,1] ⟨0,?_⟩ rfl ?_ ⟨rfl,rfl,rfl,rfl,rfl,rfl,rfl,rfl,trivial⟩ ?_ ⟨rfl,rfl,rfl,rfl,trivial⟩ rfl ?_
 · exact⟨Nat.zero_le _,hS⟩
 · repeat' first | exact trivial | refine⟨rfl,?_⟩
 · repeat' exact trivial
 rintro⟨k,hk,hK⟩
 show W _ _ _ _ _ ⟨[(5,.ptr 0 0),(8,.ptr 1 0),(85,.d (.v (.int .i64 ((k:Nat):Int)))),(1,_),(10,_),(83,_),(84,_)],[(0,_),(1,_)],[],2⟩
 refine W.seq (W.region (pE rfl (WO.nil (qs (W.seq (a9 (l:=[cols,t.cols]) (k:=k) rfl (by simp[Ex.aF,aL]) hk (fun c hx hd hlt=>?_) (fun he hd=>?_)))))))
 ·
  rw[hd] at hK
  simp only[ig] at hK
  refine W.skip (qs (W.seq (W.block (W.seq (W.region (pu (indexAddr (es:=[cols,t.cols].map lc) aa rfl rfl rfl rfl rfl rfl (Int.natCast_nonneg _) (aE hx) rfl) rfl ?_))))))
  refine pE rfl (pE rfl (WO.nil (qs (W.seq (W.region ?_)))))
  iterate 3 refine pE rfl ?_
  refine WO.nil (qs (W.block (W.len (t:=89) rfl rfl (fun hlen=>?_))))
  try simp only[List.length_map,Ex.aF] at hlen
  refine W.aS (ι:={x:Nat // match x with | j=>j≤(aM s.op).length∧cZ c ((aM s.op).drop j)=cZ c (aM s.op)})
   (fun x=>match x.1 with | j=>[(5,.ptr 0 0),(8,.ptr 1 0),(91,.d (.v (.int .i64 ((j:Nat):Int))))]) [(1,_),(10,_),(16,_),(83,_),(84,_),(85,_),(89,_),(90,_)]
   (fun x=>match x.1 with | j=>[]) [(0,_),(1,_)] [] 2 (fun x=>match x.1 with | j=>(aM s.op).length - j)
   [0,1] ⟨0,?_⟩ rfl ?_ ⟨rfl,rfl,rfl,rfl,rfl,rfl,rfl,rfl,rfl,rfl,rfl,rfl,rfl,rfl,rfl,rfl,trivial⟩ ?_ ⟨rfl,rfl,rfl,rfl,trivial⟩ rfl ?_
  · exact⟨Nat.zero_le _,rfl⟩
  · repeat' first | exact trivial | refine⟨rfl,?_⟩
  · repeat' exact trivial
  rintro⟨j,hk,hJ⟩
  show W _ _ _ _ _ ⟨[(5,.ptr 0 0),(8,.ptr 1 0),(91,.d (.v (.int .i64 ((j:Nat):Int)))),(1,_),(10,_),(16,_),(83,_),(84,_),(85,_),(89,_),(90,_)],[(0,_),(1,_)],[],2⟩
  refine W.seq (W.region (pE rfl (WO.nil (qs (W.seq (a9 (l:=aM s.op) (k:=j) rfl (by simp[Ex.aF,aL]) hk (fun m hx hd hlt=>?_) (fun he hd=>?_)))))))
  ·
   rw[hd] at hJ
   simp only[cZ] at hJ
   refine W.skip (qs (W.seq (W.block (W.seq (W.region (pu (indexAddr aa rfl rfl rfl rfl rfl rfl (Int.natCast_nonneg _) (aE hx) rfl) rfl ?_))))))
   refine pE rfl (pE rfl (WO.nil (qs (W.seq (W.region ?_)))))
   iterate 2 refine pE rfl ?_
   refine pu (ak rfl rfl rfl (qH c m) rfl) rfl ?_
   refine pE rfl (WO.nil (qs (W.seq (W.region ?_))))
   iterate 2 refine pE rfl ?_
   refine WO.nil (qs (ao rfl (fun h99=>?_) (fun h99=>?_)))
   ·
    have h99:cn c m≠0:=by simpa using h99
    rw[if_pos h99] at hJ
    simp only[←hJ] at hK
    rw[if_pos h99] at hK
    simp only[←hK] at hg
    rw[if_pos h99] at hg
    refine W.seq (W.region ?_)
    iterate 3 refine pE rfl ?_
    refine WO.nil (qs ?_)
    try refine aG (d:=6) rfl rfl ?_
    refine W.ret (au (ah (aZ (au (au (ah (aZ (au (ah (QF.aq trivial rfl ?_))))))))))
    rw[hg];rfl
   rw[if_neg (by simpa using h99)] at hJ
   refine W.skip (aX (qs (W.region ?_)))
   iterate 2 refine pE rfl ?_
   refine WO.nil (W.aU [0,1] ⟨j+1,?_⟩ ?_ rfl ?_ ⟨rfl,rfl,rfl,rfl,rfl,rfl,rfl,rfl,rfl,rfl,rfl,rfl,rfl,rfl,rfl,rfl,trivial⟩ ?_ ⟨rfl,rfl,rfl,rfl,trivial⟩ rfl)
   · exact⟨hlt,hJ⟩
   · dsimp only;omega
   · repeat' first | exact trivial | refine⟨rfl,?_⟩ | refine⟨aD (by assumption) (by assumption),?_⟩
   repeat' exact trivial
  rw[hd] at hJ
  simp only[cZ] at hJ
  simp only[←hJ] at hK
  rw[if_neg (by decide)] at hK
  refine W.exit (aN (aQ (aO (aX (qs (W.region ?_))))))
  iterate 2 refine pE rfl ?_
  refine WO.nil (W.aU [0,1] ⟨k+1,?_⟩ ?_ rfl ?_ ⟨rfl,rfl,rfl,rfl,rfl,rfl,rfl,rfl,trivial⟩ ?_ ⟨rfl,rfl,rfl,rfl,trivial⟩ rfl)
  · exact⟨hlt,hK⟩
  · dsimp only;omega
  · repeat' first | exact trivial | refine⟨rfl,?_⟩ | refine⟨aD (by assumption) (by assumption),?_⟩
  repeat' exact trivial
 rw[hd] at hK
 simp only[ig] at hK
 rw[←hK] at hg
 simp only[ne_eq,not_true_eq_false,if_false] at hg
 refine W.exit (aN (aQ (aO (qs (W.seq (W.region (pE rfl (fC rfl rfl rfl (la cols (by omega)) (by rfl) rfl rfl ?_))))))))
 refine pE rfl (WO.nil (qs ?_))
 iterate 2 refine W.seq ?_
 refine W.region (pE rfl (pE rfl ?_))
 iterate 2 refine pE rfl ?_
 refine WO.nil (qs (W.block (W.len (t:=106) rfl rfl (fun hlen=>?_))))
 try simp only[List.length_map,Ex.aF] at hlen
 refine W.aS (ι:={x:Nat×List Col // match x with | (k,out)=>k≤t.cols.length∧out++dm s.cols (aM s.op) (t.cols.drop k)=cols++dm s.cols (aM s.op) t.cols∧out.length≤1000+k})
  (fun x=>match x.1 with | (k,out)=>[(5,.ptr 0 0),(20,.own 1 (out.map Col.c)),(108,.d (.v (.int .i64 ((k:Nat):Int))))]) [(10,_),(106,_),(107,_)]
  (fun x=>match x.1 with | (k,out)=>[]) [(0,_)] [1] 2 (fun x=>match x.1 with | (k,out)=>t.cols.length - k)
  [0,2] ⟨(0,cols),?_⟩ rfl ?_ ⟨rfl,rfl,rfl,rfl,rfl,rfl,trivial⟩ ?_ ⟨rfl,rfl,trivial⟩ rfl ?_
 · exact⟨Nat.zero_le _,rfl,by omega⟩
 · repeat' first | exact trivial | refine⟨rfl,?_⟩
 · repeat' exact trivial
 rintro⟨⟨k,out⟩,hk,hL,hN⟩
 show W _ _ _ _ _ ⟨[(5,.ptr 0 0),(20,.own 1 (out.map Col.c)),(108,.d (.v (.int .i64 ((k:Nat):Int)))),(10,_),(106,_),(107,_)],[(0,_)],[1],2⟩
 refine W.seq (W.region (pE rfl (WO.nil (qs (W.seq (a9 (l:=t.cols) (k:=k) rfl (by simp[Ex.aF,aL]) hk (fun c hx hd hlt=>?_) (fun he hd=>?_)))))))
 ·
  rw[hd] at hL
  refine W.skip (qs (W.seq (W.block (W.seq (W.region (pu (indexAddr aa rfl rfl rfl rfl rfl rfl (Int.natCast_nonneg _) (aE hx) rfl) rfl ?_))))))
  refine pE rfl (a8 aa rfl rfl rfl (aR aa rfl rfl rfl rfl rfl rfl rfl rfl (WO.nil (qs (W.seq ?_)))))
  apply aC;(case hb=>rfl)
  ·
   refine pE rfl (pE rfl (pE rfl (pE rfl (pu (ak rfl rfl rfl (eA s.cols c.name) rfl) rfl ?_))))
   iterate 2 refine pE rfl ?_
   apply aw;(case hj=>rfl);(case hl=>rfl)
   ·
    refine ab rfl rfl (pE rfl (ab rfl rfl (pE rfl (ab rfl rfl (pE rfl (ab rfl rfl (pu (ak rfl rfl rfl (eA (aM s.op) c.name) rfl) rfl ?_)))))))
    refine ab rfl rfl ?_
    iterate 2 refine pE rfl ?_
    refine WO.nil (ay rfl rfl rfl)
   iterate 5 refine ar rfl rfl rfl rfl ?_
   refine pE rfl (WO.nil (ay rfl rfl rfl))
  refine qs (ao rfl (fun h124=>?_) (fun h124=>?_))
  ·
   have hr:dm s.cols (aM s.op) (c::t.cols.drop (k+1))=c::dm s.cols (aM s.op) (t.cols.drop (k+1)):=by
    simp only[dm]
    rw[List.filter_cons_of_pos]
    revert h124
    generalize s.cols.any (fun x=>decide (c.name=x))=u
    generalize (aM s.op).any (fun x=>decide (c.name=x))=v
    cases u <;> cases v <;> simp
   rw[hr] at hL
   refine W.region (pE rfl (pE rfl (pu (aI aa rfl rfl rfl rfl rfl rfl rfl rfl rfl) rfl ?_)))
   refine bJ (fn:=Col.c) (a:=c) aa rfl rfl rfl rfl rfl rfl rfl rfl rfl rfl (fun _=>rfl) (by show(out.length+1)*24≤_;omega) ?_
   refine pE rfl (WO.nil (aX (qs (W.region ?_))))
   iterate 2 refine pE rfl ?_
   refine WO.nil (W.aU [0,3] ⟨(k+1,out++[c]),?_⟩ ?_ rfl ?_ ⟨rfl,rfl,rfl,rfl,rfl,rfl,trivial⟩ ?_ ⟨rfl,rfl,trivial⟩ rfl)
   · exact⟨hlt,by rw[←hL];simp,by simp;omega⟩
   · dsimp only;omega
   · repeat' first | exact trivial | refine⟨rfl,?_⟩ | refine⟨aD (by assumption) (by assumption),?_⟩
   repeat' exact trivial
  have hr:dm s.cols (aM s.op) (c::t.cols.drop (k+1))=dm s.cols (aM s.op) (t.cols.drop (k+1)):=by
   simp only[dm]
   rw[List.filter_cons_of_neg]
   revert h124
   generalize s.cols.any (fun x=>decide (c.name=x))=u
   generalize (aM s.op).any (fun x=>decide (c.name=x))=v
   cases u <;> cases v <;> simp
  rw[hr] at hL
  refine W.skip (aX (qs (W.region ?_)))
  iterate 2 refine pE rfl ?_
  refine WO.nil (W.aU [0,1] ⟨(k+1,out),?_⟩ ?_ rfl ?_ ⟨rfl,rfl,rfl,rfl,rfl,rfl,trivial⟩ ?_ ⟨rfl,rfl,trivial⟩ rfl)
  · exact⟨hlt,hL,by omega⟩
  · dsimp only;omega
  · repeat' first | exact trivial | refine⟨rfl,?_⟩ | refine⟨aD (by assumption) (by assumption),?_⟩
  repeat' exact trivial
 rw[hd] at hL
 rw[show dm s.cols (aM s.op) []=[] from rfl,List.append_nil] at hL
 rw[←hL] at hg
 unfold tG at hg
 refine W.exit (aN (aQ (aO (qs ?_))))
 iterate 2 refine W.seq ?_
 refine W.region ?_
 iterate 3 refine pE rfl ?_
 refine WO.nil (qs (W.block (W.len (t:=130) rfl rfl (fun hlen=>?_))))
 try simp only[List.length_map,Ex.aF] at hlen
 refine W.aS (ι:={x:Nat // match x with | k=>k≤out.length∧fu out k (out.drop k)=fu out 0 out})
  (fun x=>match x.1 with | k=>[(20,.own 0 (out.map Col.c)),(130,.own 0 (out.map Col.c)),(132,.d (.v (.int .i64 ((k:Nat):Int))))]) [(131,_)]
  (fun x=>match x.1 with | k=>[]) [] [0] 1 (fun x=>match x.1 with | k=>out.length - k)
  [1] ⟨0,?_⟩ rfl ?_ ⟨rfl,rfl,trivial⟩ ?_ trivial rfl ?_
 · exact⟨Nat.zero_le _,rfl⟩
 · repeat' first | exact trivial | refine⟨rfl,?_⟩
 · repeat' exact trivial
 rintro⟨k,hk,hM⟩
 show W _ _ _ _ _ ⟨[(20,.own 0 (out.map Col.c)),(130,.own 0 (out.map Col.c)),(132,.d (.v (.int .i64 ((k:Nat):Int)))),(131,_)],[],[0],1⟩
 refine W.seq (W.region (pE rfl (WO.nil (qs (W.seq (a9 (l:=out) (k:=k) rfl (by simp[Ex.aF,aL]) hk (fun c hx hd hlt=>?_) (fun he hd=>?_)))))))
 ·
  rw[hd] at hM
  simp only[fu] at hM
  refine W.skip (qs (W.seq (W.block (W.seq (W.region (pE rfl (pu (indexAddr aa rfl rfl rfl rfl rfl rfl (Int.natCast_nonneg _) (aE hx) rfl) rfl ?_)))))))
  refine pE rfl (a8 aa rfl rfl rfl (pE rfl (aR aa rfl rfl rfl rfl rfl rfl rfl rfl (WO.nil (qs (W.seq (W.be aa (by kernel_rfl) ?_)))))))
  iterate 2 refine an (ev aa rfl) rfl ?_
  refine an (vO (fn:=Col.c) aa rfl rfl rfl rfl rfl rfl (fun _=>rfl) (by omega)) rfl ?_
  refine an (ev aa rfl) rfl ?_
  refine an (ev aa rfl) rfl ?_
  refine an (ak rfl rfl rfl (gJ (out.take k) c.name) rfl) rfl ?_
  refine an (ev aa rfl) rfl ?_
  refine CH.nil ?_
  refine qs (ao rfl (fun h143=>?_) (fun h143=>?_))
  ·
   have h143:((out.take k).any fun y=>decide (y.name=c.name))=true:=cF.symm.trans h143
   rw[h143,Bool.true_or] at hM
   rw[if_pos hM.symm] at hg
   refine W.seq (W.region ?_)
   iterate 2 refine pE rfl ?_
   refine WO.nil (qs ?_)
   try refine aG (d:=6) rfl rfl ?_
   refine W.ret (au (ah (aZ (au (ah (QF.aq trivial rfl ?_))))))
   rw[hg];rfl
  have h143:((out.take k).any fun y=>decide (y.name=c.name))=false:=cF.symm.trans h143
  rw[h143,Bool.false_or] at hM
  refine W.skip (aX (qs (W.region ?_)))
  iterate 2 refine pE rfl ?_
  refine WO.nil (W.aU [0] ⟨k+1,?_⟩ ?_ rfl ?_ ⟨rfl,rfl,trivial⟩ ?_ trivial rfl)
  · exact⟨hlt,hM⟩
  · dsimp only;omega
  · repeat' first | exact trivial | refine⟨rfl,?_⟩ | refine⟨aD (by assumption) (by assumption),?_⟩
  repeat' exact trivial
 rw[hd] at hM
 simp only[fu] at hM
 rw[if_neg (by rw[←hM];decide)] at hg
 refine W.exit (aN (aQ (aO (qs ?_))))
 iterate 2 refine W.seq ?_
 refine W.region ?_
 iterate 3 refine pE rfl ?_
 refine WO.nil (qs (ao rfl (fun h147=>?_) (fun h147=>?_)))
 ·
  rw[if_pos (by simp at h147;omega)] at hg
  refine W.seq (W.region ?_)
  iterate 2 refine pE rfl ?_
  refine WO.nil (qs ?_)
  try refine aG (d:=6) rfl rfl ?_
  refine W.ret (ah (QF.aq trivial rfl ?_))
  rw[hg];rfl
 rw[if_neg (by simp at h147;omega)] at hg
 refine W.skip (qs (W.seq (W.region ?_)))
 iterate 3 refine pE rfl ?_
 refine WO.nil (qs ?_)
 try refine aG (d:=6) rfl rfl ?_
 refine W.ret (QF.aq trivial rfl ?_)
 rw[hg];rfl
end Go.Proofs.YtjenenllmjlimaaGreat
namespace Go.Proofs.YtjenenllmjlimaaGreat
open Go.Ab Go.Tb
set_option maxRecDepth 10000
attribute [local irreducible] W WO Pu QS QB QL QF QV b7 CH QE
def l7 (s:dK):Prop:=s.items.length≤400∧s.cols.length≤400∧s.aggs.length≤400∧s.sorts.length≤400
def vZ (d:List iH):Prop:=∀ x∈d,x.table.cols.length≤1000
theorem nG:∀ (l:List kE) (ks:List ByteArray),dW ks l=0→∀ x∈l,cJ x.e=0
 | [],_,_,x,hx=>by cases hx
 | y::r,ks,h,x,hx=>by
  simp only[dW] at h
  split at h
  · rename_i h1;exact absurd h h1
  rename_i h1
  split at h
  · rename_i h2;exact absurd h h2
  rcases List.mem_cons.1 hx with rfl | hx
  · exact lC (by omega)
  exact nG r _ h x hx
theorem sM (d:List iH) (cols:List Col) (s:dK) (hf:l7 s) (ht:vZ d) (hc:cols.length≤1000):ax Tryz.prog 44 [.d (.sl (d.map iH.c)),.d (.sl (cols.map Col.c)),.ag s.c]
  (.tup [.d (.sl ((dy d cols s).1.map Col.c)),.d (.v (.int .i64 (dy d cols s).2))]) 0:=by
 obtain⟨hf1,hf2,hf3,hf4⟩:=id hf
 have hg:dy d cols s=dy d cols s:=rfl
 conv at hg=>rhs;unfold dy
 refine ax.aT (n:=88) (ts:=[6,7]) Tryz.func44 (by kernel_rfl) rfl Tryz.ntmps44 Tryz.results44 rfl rfl fun C hC hG=>?_
 refine W.seq (W.region (br rfl rfl rfl ?_))
 iterate 2 refine pE rfl ?_
 refine WO.nil (qs ?_)
 iterate 2 refine W.seq ?_
 refine W.region (pE rfl (pu (ak rfl rfl rfl (zB s (by omega)) rfl) rfl ?_))
 refine pE rfl (WO.nil (qs (W.seq (W.region ?_))))
 iterate 2 refine pE rfl ?_
 refine WO.nil (qs (ao rfl (fun h16=>?_) (fun h16=>?_)))
 ·
  rw[if_pos (by simpa using h16)] at hg
  refine W.seq (W.region ?_)
  iterate 3 refine pE rfl ?_
  refine WO.nil (qs ?_)
  try refine aG (d:=6) rfl rfl ?_
  refine W.ret (ah (QF.aq trivial rfl ?_))
  (rw[hg];rfl)
 have h16:bZ s=0:=by simpa using h16
 rw[if_neg (by simp[h16])] at hg
 have hse:=h16
 unfold bZ at hse
 split at hse
 · cases hse
 refine W.skip (qs ?_)
 iterate 2 refine W.seq ?_
 refine W.region (pE rfl (pE rfl (WO.nil (qs (W.block (W.seq (W.region ?_)))))))
 iterate 2 refine pE rfl ?_
 refine WO.nil (qs (ao rfl (fun h20=>?_) (fun h20=>?_)))
 ·
  have h20:s.op=1:=by simpa using h20
  rw[if_pos h20] at hg hse
  have hv:=lC hse
  refine W.seq (W.region ?_)
  iterate 2 refine pE rfl ?_
  refine pE rfl (pu (ak rfl rfl rfl (uc cols s.cond hv) rfl) rfl ?_)
  iterate 5 refine pE rfl ?_
  refine WO.nil (qs ?_)
  iterate 2 refine W.seq ?_
  apply aC;(case hb=>rfl)
  ·
   iterate 3 refine pE rfl ?_
   apply aw;(case hj=>rfl);(case hl=>rfl)
   ·
    refine ab rfl rfl (pE rfl (ab rfl rfl (pu (ak rfl rfl rfl (kT ..) rfl) rfl ?_)))
    refine ab rfl rfl ?_
    iterate 2 refine pE rfl ?_
    refine WO.nil (ay rfl rfl rfl)
   iterate 3 refine ar rfl rfl rfl rfl ?_
   refine pE rfl (WO.nil (ay rfl rfl rfl))
  refine qs (ao rfl (fun h35=>?_) (fun h35=>?_))
  ·
   have h35:(cX cols s.cond).2=0∧fits (cX cols s.cond).1 1=false:=by revert h35;generalize fits (cX cols s.cond).1 1=u;by_cases q:(cX cols s.cond).2=0 <;> cases u <;> simp[q]
   have hw:fK cols s.cond=14:=by unfold fK;rw[if_pos h35]
   simp only[hw] at hg
   refine W.region (pE rfl (WO.nil (qs (W.seq (W.region ?_)))))
   iterate 2 refine pE rfl ?_
   refine WO.nil (qs (ao rfl (fun h37=>?_) (fun h37=>?_)))
   ·
    rw[if_pos (by first | decide | simpa using h37)] at hg
    refine W.seq (W.region ?_)
    iterate 3 refine pE rfl ?_
    refine WO.nil (qs ?_)
    try refine aG (d:=6) rfl rfl ?_
    refine W.ret (au (ah (QF.aq trivial rfl ?_)))
    (rw[hg];rfl)
   rw[if_neg (by first | (exfalso;revert h37;decide) | simpa using h37)] at hg
   refine W.skip (aX (qs (W.seq (W.region (pE rfl (fC rfl rfl rfl (la cols (by omega)) (by rfl) rfl rfl ?_))))))
   iterate 2 refine pE rfl ?_
   refine WO.nil (qs ?_)
   try refine aG (d:=6) rfl rfl ?_
   refine W.ret (QF.aq trivial rfl ?_)
   (rw[hg];rfl)
  have h35:¬ ((cX cols s.cond).2=0∧fits (cX cols s.cond).1 1=false):=by revert h35;generalize fits (cX cols s.cond).1 1=u;by_cases q:(cX cols s.cond).2=0 <;> cases u <;> simp[q]
  have hw:fK cols s.cond=(cX cols s.cond).2:=by unfold fK;rw[if_neg h35]
  simp only[hw] at hg
  refine W.skip (qs (W.seq (W.region ?_)))
  iterate 2 refine pE rfl ?_
  refine WO.nil (qs (ao rfl (fun h37=>?_) (fun h37=>?_)))
  ·
   rw[if_pos (by first | decide | simpa using h37)] at hg
   refine W.seq (W.region ?_)
   iterate 3 refine pE rfl ?_
   refine WO.nil (qs ?_)
   try refine aG (d:=6) rfl rfl ?_
   refine W.ret (au (ah (QF.aq trivial rfl ?_)))
   (rw[hg];rfl)
  rw[if_neg (by first | (exfalso;revert h37;decide) | simpa using h37)] at hg
  refine W.skip (aX (qs (W.seq (W.region (pE rfl (fC rfl rfl rfl (la cols (by omega)) (by rfl) rfl rfl ?_))))))
  iterate 2 refine pE rfl ?_
  refine WO.nil (qs ?_)
  try refine aG (d:=6) rfl rfl ?_
  refine W.ret (QF.aq trivial rfl ?_)
  (rw[hg];rfl)
 have h20:¬ s.op=1:=by simpa using h20
 rw[if_neg h20] at hg hse
 refine W.seq (W.region ?_)
 iterate 2 refine pE rfl ?_
 refine WO.nil (qs (ao rfl (fun h39=>?_) (fun h39=>?_)))
 ·
  have h39:s.op=2:=by simpa using h39
  rw[if_pos h39] at hg hse
  have hsel:dW [] s.items=0:=by
   split at hse
   · rename_i h1;exact absurd hse h1
   exact hse
  refine W.seq (W.region ?_)
  iterate 2 refine pE rfl ?_
  refine pE rfl (pu (ak rfl rfl rfl (uj cols s.items (by omega) (nG _ _ hsel)) rfl) rfl ?_)
  iterate 4 refine pE rfl ?_
  refine WO.nil (qs ?_)
  try refine aG (d:=6) rfl rfl ?_
  refine W.ret (au (ah (QF.aq trivial rfl ?_)))
  (rw[hg];rfl)
 have h39:¬ s.op=2:=by simpa using h39
 rw[if_neg h39] at hg hse
 refine W.seq (W.region ?_)
 iterate 2 refine pE rfl ?_
 refine WO.nil (qs (ao rfl (fun h47=>?_) (fun h47=>?_)))
 ·
  have h47:s.op=3:=by simpa using h47
  rw[if_pos h47] at hg hse
  refine W.seq (W.region (pE rfl (pE rfl (pu (ak rfl rfl rfl (wu cols s (by omega) (by omega)) rfl) rfl ?_))))
  iterate 4 refine pE rfl ?_
  refine WO.nil (qs ?_)
  try refine aG (d:=6) rfl rfl ?_
  refine W.ret (au (ah (QF.aq trivial rfl ?_)))
  (rw[hg];rfl)
 have h47:¬ s.op=3:=by simpa using h47
 rw[if_neg h47] at hg hse
 refine W.seq (W.region ?_)
 iterate 2 refine pE rfl ?_
 refine WO.nil (qs (ao rfl (fun h54=>?_) (fun h54=>?_)))
 ·
  have h54:s.op=4:=by simpa using h54
  rw[if_pos h54] at hg hse
  refine W.seq (W.region (pE rfl (pE rfl ?_)))
  iterate 2 refine pE rfl ?_
  refine WO.nil (qs (W.block (W.len (t:=57) rfl rfl (fun hlen=>?_))))
  try simp only[List.length_map,Ex.aF] at hlen
  refine W.aS (ι:={x:Nat // match x with | k=>k≤s.sorts.length∧fS cols (s.sorts.drop k)=fS cols s.sorts})
   (fun x=>match x.1 with | k=>[(59,.d (.v (.int .i64 ((k:Nat):Int))))]) [(1,_),(57,_),(58,_)]
   (fun x=>match x.1 with | k=>[]) [] [] 0 (fun x=>match x.1 with | k=>s.sorts.length - k)
   [] ⟨0,?_⟩ rfl ?_ ⟨rfl,rfl,rfl,rfl,rfl,rfl,trivial⟩ ?_ trivial rfl ?_
  · exact⟨Nat.zero_le _,rfl⟩
  · repeat' first | exact trivial | refine⟨rfl,?_⟩
  · repeat' exact trivial
  rintro⟨k,hk,hI⟩
  show W _ _ _ _ _ ⟨[(59,.d (.v (.int .i64 ((k:Nat):Int)))),(1,_),(57,_),(58,_)],[],[],0⟩
  refine W.seq (W.region (pE rfl (WO.nil (qs (W.seq (a9 (l:=s.sorts) (k:=k) rfl (by simp[Ex.aF,aL]) hk (fun x hx hd hlt=>?_) (fun he hd=>?_)))))))
  ·
   rw[hd] at hI
   rw[show fS cols (x::s.sorts.drop (k+1))=(!(cols.any fun c=>decide (c.name=x.col)) || fS cols (s.sorts.drop (k+1))) from rfl] at hI
   refine W.skip (qs (W.seq (W.block (W.seq (W.region (pu (indexAddr aa rfl rfl rfl rfl rfl rfl (Int.natCast_nonneg _) (aE hx) rfl) rfl ?_))))))
   refine pE rfl (a8 aa rfl rfl rfl (aR aa rfl rfl rfl rfl rfl rfl rfl rfl (WO.nil (qs (W.seq (W.region ?_))))))
   iterate 2 refine pE rfl ?_
   refine pE rfl (pu (ak rfl rfl rfl (gJ ..) rfl) rfl ?_)
   refine pE rfl (WO.nil (qs (ao rfl (fun h67=>?_) (fun h67=>?_))))
   ·
    have h67:(cols.any fun c=>decide (c.name=x.col))=false:=by rw[←cF];simp at h67 ⊢;omega
    rw[h67] at hI
    rw[if_pos (by rw[←hI];rfl)] at hg
    refine W.seq (W.region ?_)
    iterate 2 refine pE rfl ?_
    refine WO.nil (qs ?_)
    try refine aG (d:=6) rfl rfl ?_
    refine W.ret (au (ah (aZ (au (au (ah (QF.aq trivial rfl ?_)))))))
    (rw[hg];rfl)
   have h67:(cols.any fun c=>decide (c.name=x.col))=true:=by rw[←cF];simp at h67 ⊢;omega
   rw[h67] at hI
   refine W.skip (aX (qs (W.region ?_)))
   iterate 2 refine pE rfl ?_
   refine WO.nil (W.aU [] ⟨k+1,?_⟩ ?_ rfl ?_ ⟨rfl,rfl,rfl,rfl,rfl,rfl,trivial⟩ ?_ trivial rfl)
   · exact⟨hlt,hI⟩
   · dsimp only;omega
   · repeat' first | exact trivial | refine⟨aD (by assumption) (by assumption),?_⟩
   repeat' exact trivial
  rw[hd] at hI
  rw[if_neg (by rw[←hI];simp[fS])] at hg
  refine W.exit (aN (aQ (aO (aX (qs (W.seq (W.region (pE rfl (fC rfl rfl rfl (la cols (by omega)) (by rfl) rfl rfl ?_)))))))))
  iterate 2 refine pE rfl ?_
  refine WO.nil (qs ?_)
  try refine aG (d:=6) rfl rfl ?_
  refine W.ret (QF.aq trivial rfl ?_)
  (rw[hg];rfl)
 have h54:¬ s.op=4:=by simpa using h54
 rw[if_neg h54] at hg hse
 refine W.seq (W.region ?_)
 iterate 2 refine pE rfl ?_
 refine WO.nil (qs (ao rfl (fun h69=>?_) (fun h69=>?_)))
 ·
  have h69:s.op=9:=by simpa using h69
  rw[if_pos h69] at hg
  refine W.seq (W.region (pE rfl (pE rfl (pu (ak rfl rfl rfl (sS cols s (by omega)) rfl) rfl ?_))))
  iterate 4 refine pE rfl ?_
  refine WO.nil (qs ?_)
  try refine aG (d:=6) rfl rfl ?_
  refine W.ret (au (ah (QF.aq trivial rfl ?_)))
  (rw[hg];rfl)
 have h69:¬ s.op=9:=by simpa using h69
 rw[if_neg h69] at hg
 iterate 2 refine W.seq ?_
 refine W.region ?_
 iterate 2 refine pE rfl ?_
 refine WO.nil (qs (ao rfl (fun h76=>?_) (fun h76=>?_)))
 ·
  have h76':s.op=6∨s.op=7∨s.op=8:=by simp_all
  rw[if_pos h76'] at hg
  refine W.skip (qs (W.cS rfl (W.seq (W.region ?_))))
  iterate 2 refine pE rfl ?_
  refine pE rfl (pu (ak rfl rfl rfl (oh d cols s hc ht) rfl) rfl ?_)
  iterate 4 refine pE rfl ?_
  refine WO.nil (qs ?_)
  try refine aG (d:=6) rfl rfl ?_
  refine W.ret (au (ah (QF.aq trivial rfl ?_)))
  (rw[hg];rfl)
 have h76a:=h76
 refine W.seq (W.region ?_)
 iterate 2 refine pE rfl ?_
 refine WO.nil (qs (ao rfl (fun h76=>?_) (fun h76=>?_)))
 ·
  have h76':s.op=6∨s.op=7∨s.op=8:=by simp_all
  rw[if_pos h76'] at hg
  refine W.skip (qs (W.cS rfl (W.seq (W.region ?_))))
  iterate 2 refine pE rfl ?_
  refine pE rfl (pu (ak rfl rfl rfl (oh d cols s hc ht) rfl) rfl ?_)
  iterate 4 refine pE rfl ?_
  refine WO.nil (qs ?_)
  try refine aG (d:=6) rfl rfl ?_
  refine W.ret (au (ah (QF.aq trivial rfl ?_)))
  (rw[hg];rfl)
 have h76a:=h76
 refine W.region ?_
 iterate 2 refine pE rfl ?_
 refine WO.nil (qs (ao rfl (fun h76=>?_) (fun h76=>?_)))
 ·
  have h76':s.op=6∨s.op=7∨s.op=8:=by simp_all
  rw[if_pos h76'] at hg
  refine W.seq (W.region ?_)
  iterate 2 refine pE rfl ?_
  refine pE rfl (pu (ak rfl rfl rfl (oh d cols s hc ht) rfl) rfl ?_)
  iterate 4 refine pE rfl ?_
  refine WO.nil (qs ?_)
  try refine aG (d:=6) rfl rfl ?_
  refine W.ret (au (ah (QF.aq trivial rfl ?_)))
  (rw[hg];rfl)
 have h76a:=h76
 refine W.skip (aX (qs (W.seq (W.region (pE rfl (fC rfl rfl rfl (la cols (by omega)) (by rfl) rfl rfl ?_))))))
 iterate 2 refine pE rfl ?_
 refine WO.nil (qs ?_)
 try refine aG (d:=6) rfl rfl ?_
 refine W.ret (QF.aq trivial rfl ?_)
 (rw[hg,if_neg (by simp_all)];rfl)
end Go.Proofs.YtjenenllmjlimaaGreat
namespace Go.Proofs.YtjenenllmjlimaaGreat
open Go.Ab Go.Tb
set_option maxRecDepth 10000
attribute [local irreducible] W WO Pu QS QB QL QF QV b7 CH QE
end Go.Proofs.YtjenenllmjlimaaGreat
namespace Go.Proofs.YtjenenllmjlimaaGreat
open Go.Ab Go.Tb
set_option maxRecDepth 10000
attribute [local irreducible] W WO Pu QS QB QL QF QV b7 CH QE
end Go.Proofs.YtjenenllmjlimaaGreat
namespace Go.Proofs.YtjenenllmjlimaaGreat
open Go.Ab Go.Tb
set_option maxRecDepth 10000
attribute [local irreducible] W WO Pu QS QB QL QF QV b7 CH QE
def v0:aH:=⟨0,0,B #[]⟩
def e0:Ex:=.mk 0 (B #[]) v0 []
end Go.Proofs.YtjenenllmjlimaaGreat
