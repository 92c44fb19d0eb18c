import Derived.Test.YtjenenllmjlimaaQ3
import Derived.Test.YtjenenllmjlimaaChecked
import Derived.KernelRfl
namespace Go.Proofs.Ytjenenllmjlimaa
open Go.Ab
abbrev x3 : List (Nat × bW) := [
 (2, ⟨.int .i64, 1, 8, [.int .i64 0]⟩),
 (3, ⟨.int .i64, 1, 8, [.int .i64 0]⟩),
 (4, ⟨.bool, 1, 1, [.bool false]⟩),
 (5, ⟨.int .u8, 1, 1, [.int .u8 0]⟩),
 (9, ⟨.str, 1, 16, [.string ⟨#[]⟩]⟩),
 (12, ⟨.int .u64, 1, 8, [.int .u64 0]⟩),
 (21, ⟨.int .i32, 1, 4, [.int .i32 0]⟩),
 (22, ⟨.slice 66, 1, 24, [.slice none 0 0]⟩),
 (23, ⟨.slice 35, 1, 24, [.slice none 0 0]⟩),
 (25, ⟨.st [(0, 22, "Cols"), (1, 23, "Rows")], 2, 48, [.slice none 0 0, .slice none 0 0]⟩),
 (26, ⟨.slice 9, 1, 24, [.slice none 0 0]⟩),
 (29, ⟨.int .i64, 1, 8, [.int .i64 0]⟩),
 (35, ⟨.slice 38, 1, 24, [.slice none 0 0]⟩),
 (36, ⟨.int .i64, 1, 8, [.int .i64 0]⟩),
 (38, ⟨.st [(0, 36, "Kind"), (1, 3, "N"), (2, 9, "S")], 3, 32, [.int .i64 0, .int .i64 0, .string ⟨#[]⟩]⟩),
 (42, ⟨.st [(0, 3, "From"), (1, 3, "To")], 2, 16, [.int .i64 0, .int .i64 0]⟩),
 (53, ⟨.slice 3, 1, 24, [.slice none 0 0]⟩),
 (56, ⟨.int .i64, 1, 8, [.int .i64 0]⟩),
 (66, ⟨.st [(0, 9, "Name"), (1, 36, "Type")], 2, 24, [.string ⟨#[]⟩, .int .i64 0]⟩),
 (69, ⟨.slice 71, 1, 24, [.slice none 0 0]⟩),
 (71, ⟨.st [(0, 35, "key"), (1, 42, "span")], 3, 40, [.slice none 0 0, .int .i64 0, .int .i64 0]⟩),
 (75, ⟨.slice 25, 1, 24, [.slice none 0 0]⟩),
 (76, ⟨.int .i64, 1, 8, [.int .i64 0]⟩),
 (77, ⟨.slice 79, 1, 24, [.slice none 0 0]⟩),
 (79, ⟨.st [(0, 76, "Op"), (1, 9, "Name"), (2, 38, "V"), (5, 77, "Kids")], 6, 80, [.int .i64 0, .string ⟨#[]⟩, .int .i64 0, .int .i64 0, .string ⟨#[]⟩, .slice none 0 0]⟩),
 (80, ⟨.slice 127, 1, 24, [.slice none 0 0]⟩),
 (81, ⟨.slice 130, 1, 24, [.slice none 0 0]⟩),
 (82, ⟨.slice 106, 1, 24, [.slice none 0 0]⟩),
 (84, ⟨.st [(0, 56, "Op"), (1, 79, "Cond"), (7, 80, "Items"), (8, 26, "Cols"), (9, 81, "Aggs"), (10, 82, "Sorts"), (11, 3, "N"), (12, 9, "Table")], 13, 208, [.int .i64 0, .int .i64 0, .string ⟨#[]⟩, .int .i64 0, .int .i64 0, .string ⟨#[]⟩, .slice none 0 0, .slice none 0 0, .slice none 0 0, .slice none 0 0, .slice none 0 0, .int .i64 0, .string ⟨#[]⟩]⟩),
 (85, ⟨.slice 87, 1, 24, [.slice none 0 0]⟩),
 (87, ⟨.st [(0, 9, "Name"), (1, 25, "Table")], 3, 64, [.string ⟨#[]⟩, .slice none 0 0, .slice none 0 0]⟩),
 (106, ⟨.st [(0, 9, "Col"), (1, 4, "Desc")], 2, 24, [.string ⟨#[]⟩, .bool false]⟩),
 (122, ⟨.slice 36, 1, 24, [.slice none 0 0]⟩),
 (127, ⟨.st [(0, 79, "E"), (6, 9, "As")], 7, 96, [.int .i64 0, .string ⟨#[]⟩, .int .i64 0, .int .i64 0, .string ⟨#[]⟩, .slice none 0 0, .string ⟨#[]⟩]⟩),
 (130, ⟨.st [(0, 9, "Fn"), (1, 9, "Col"), (2, 9, "As")], 3, 48, [.string ⟨#[]⟩, .string ⟨#[]⟩, .string ⟨#[]⟩]⟩),
 (135, ⟨.slice 22, 1, 24, [.slice none 0 0]⟩),
 (136, ⟨.int .u64, 1, 8, [.int .u64 0]⟩),
 (138, ⟨.slice 56, 1, 24, [.slice none 0 0]⟩),
 (145, ⟨.st [(0, 26, "names")], 1, 24, [.slice none 0 0]⟩),
 (150, ⟨.ptr 145, 1, 8, [.pointer none]⟩),
 (161, ⟨.int .u32, 1, 4, [.int .u32 0]⟩),
 (165, ⟨.ptr 5, 1, 8, [.pointer none]⟩)]
theorem x8 : x3.all (fun x => si Try.prog x.1 x.2) = true := by kernel_rfl
abbrev aa : cd Try.prog := ⟨x3, x8, by kernel_rfl⟩
instance yQ : Go.Ab.eK Try.prog := ⟨fun _ => True⟩
section
variable {C : Ctx} {n : Nat} {ops : Array Oper} {Q : Exit → St → Prop} {rest : List Oper} {f : List (Nat × A)} {bx : List (Nat × List A)} {lv : List Nat} {gen d : Nat} {ty : TypeId} {pos : String} {af : Array Edge} {a : A}
theorem pE {op : Op} (h : Bool.rec (motive := fun _ => Option A) none (ik aa f bx op) (Nat.blt d n) = some a) (k : WO Try.prog C n ops Q rest ⟨(d, a) :: f, bx, lv, gen⟩) : WO Try.prog C n ops Q (⟨some d, op, ty, pos, af, none⟩ :: rest) ⟨f, bx, lv, gen⟩ := by
  cases hb : Nat.blt d n with
  | false => rw [hb] at h; exact absurd h (by simp)
  | true => rw [hb] at h; exact pu (ev aa h) hb k
theorem pR {t : Nat} {x : Operand} {td : bW} {l : List D} (ht : ax aa.l t = some td) (hk : td.k.agg = true) (hx : av f x = some (.rowd l)) (hl : l.length = td.n) (hd : Nat.blt d n = true) (k : WO Try.prog C n ops Q rest ⟨(d, .ag l) :: f, bx, lv, gen⟩) : WO Try.prog C n ops Q (⟨some d, .load t x, ty, pos, af, none⟩ :: rest) ⟨f, bx, lv, gen⟩ := pu (cM aa ht hk hx hl) hd k
theorem pB {t : Nat} {x : Operand} {td : bW} {g : Nat} {l : List D} (ht : ax aa.l t = some td) (hk : td.k.agg = true) (hx : av f x = some (.ptr g 0)) (hb : ax bx g = some (l.map A.d)) (hl : l.length = td.n) (hd : Nat.blt d n = true) (k : WO Try.prog C n ops Q rest ⟨(d, .ag l) :: f, bx, lv, gen⟩) : WO Try.prog C n ops Q (⟨some d, .load t x, ty, pos, af, none⟩ :: rest) ⟨f, bx, lv, gen⟩ := pu (cK aa ht hk hx hb hl) hd k
end
end Go.Proofs.Ytjenenllmjlimaa
namespace Go.Proofs.Ytjenenllmjlimaa
open Go.Ab Go.Tb
set_option maxRecDepth 10000
attribute [local irreducible] W WO Pu QS QB QL QF QV bO CH QE
theorem jM (k want : Int) : aw Try.prog 54 [.d (.v (.int .i64 k)), .d (.v (.int .i64 want))] (.d (.v (.bool (fits k want)))) 0 := by
 refine aw.a8 (n := 12) (ts := [4]) Try.func54 (by kernel_rfl) rfl Try.ntmps54 Try.results54 rfl rfl fun C hC hG => ?_
 refine W.seq (W.region (pE rfl (WO.nil (qs (W.seq ?_)))))
 apply aI; (case hb => rfl)
 ·
  iterate 4 refine pE rfl ?_
  apply aC; (case hj => rfl); (case hl => rfl)
  ·
   iterate 2 refine ay rfl rfl rfl rfl ?_
   iterate 2 refine pE rfl ?_
   refine WO.nil (aA rfl rfl rfl)
  refine ah rfl rfl (pE rfl (ah rfl rfl ?_))
  iterate 3 refine pE rfl ?_
  refine WO.nil (aA rfl rfl rfl)
 refine qs (W.ret (QF.ar trivial rfl ?_))
 simp [norm, az, fits]
theorem ye (n : Int) : aw Try.prog 44 [.d (.v (.int .i64 n))] (.d (.v (.bool (l6 n)))) 0 := by
 refine aw.a8 (n := 9) (ts := [2]) Try.func44 (by kernel_rfl) rfl Try.ntmps44 Try.results44 rfl rfl fun C hC hG => ?_
 refine W.seq (W.region (pE rfl (WO.nil (qs (W.seq ?_)))))
 apply aI; (case hb => rfl)
 ·
  iterate 3 refine pE rfl ?_
  apply aC; (case hj => rfl); (case hl => rfl)
  ·
   refine ah rfl rfl (pE rfl (ah rfl rfl ?_))
   iterate 3 refine pE rfl ?_
   refine WO.nil (aA rfl rfl rfl)
  iterate 2 refine ay rfl rfl rfl rfl ?_
  iterate 2 refine pE rfl ?_
  refine WO.nil (aA rfl rfl rfl)
 refine qs (W.ret (QF.ar trivial rfl ?_))
 simp [norm, az, l6]
theorem cL (ok : Bool) (k : Int) : aw Try.prog 76 [.d (.v (.bool ok)), .d (.v (.int .i64 k))] (.tup [.d (.v (.int .i64 (if ok then k else 0))), .d (.v (.int .i64 (if ok then 0 else 14)))]) 0 := by
 refine aw.a8 (n := 9) (ts := [4, 5]) Try.func76 (by kernel_rfl) rfl Try.ntmps76 Try.results76 rfl rfl fun C hC hG => ?_
 refine W.seq (W.region ?_)
 iterate 2 refine pE rfl ?_
 refine WO.nil (qs ?_)
 iterate 2 refine W.seq ?_
 refine W.region ?_
 iterate 2 refine pE rfl ?_
 refine WO.nil (qs (aq rfl (fun h7 => ?_) (fun h7 => ?_)))
 ·
  refine W.seq (W.region ?_)
  iterate 2 refine pE rfl ?_
  refine WO.nil (qs (W.ret (an (QF.ar trivial rfl ?_))))
  simp_all [norm, az, cb]
 refine W.skip (qs (W.seq (W.region ?_)))
 iterate 3 refine pE rfl ?_
 refine WO.nil (qs (W.ret (QF.ar trivial rfl ?_)))
 simp_all [norm, az, cb]
theorem fT (s : ByteArray) : aw Try.prog 105 [.d (.v (.string s))] (.d (.v (.int .i64 (arity s)))) 0 := by
 refine aw.a8 (n := 12) (ts := [2]) Try.func105 (by kernel_rfl) rfl Try.ntmps105 Try.results105 rfl rfl fun C hC hG => ?_
 refine W.seq (W.region (pE rfl (WO.nil (qs ?_))))
 iterate 2 refine W.seq ?_
 refine W.region (pE rfl (WO.nil (qs (W.block ?_))))
 iterate 2 refine W.seq ?_
 refine W.region ?_
 iterate 2 refine pE rfl ?_
 refine WO.nil (qs (aq rfl (fun h4 => ?_) (fun h4 => ?_)))
 ·
  refine W.skip (qs (W.cE rfl (W.seq (W.region (pE rfl (WO.nil (qs (W.ret (au (an (QF.ar trivial rfl ?_)))))))))))
  simp_all [norm, az, arity, gU, gN, jC, ew, gw, gr]
 refine W.seq (W.region ?_)
 iterate 2 refine pE rfl ?_
 refine WO.nil (qs (aq rfl (fun h4 => ?_) (fun h4 => ?_)))
 ·
  refine W.skip (qs (W.cE rfl (W.seq (W.region (pE rfl (WO.nil (qs (W.ret (au (an (QF.ar trivial rfl ?_)))))))))))
  simp_all [norm, az, arity, gU, gN, jC, ew, gw, gr]
 refine W.seq (W.region ?_)
 iterate 2 refine pE rfl ?_
 refine WO.nil (qs (aq rfl (fun h4 => ?_) (fun h4 => ?_)))
 ·
  refine W.skip (qs (W.cE rfl (W.seq (W.region (pE rfl (WO.nil (qs (W.ret (au (an (QF.ar trivial rfl ?_)))))))))))
  simp_all [norm, az, arity, gU, gN, jC, ew, gw, gr]
 refine W.region ?_
 iterate 2 refine pE rfl ?_
 refine WO.nil (qs (aq rfl (fun h4 => ?_) (fun h4 => ?_)))
 ·
  refine W.seq (W.region (pE rfl (WO.nil (qs (W.ret (au (an (QF.ar trivial rfl ?_))))))))
  simp_all [norm, az, arity, gU, gN, jC, ew, gw, gr]
 iterate 2 refine W.seq ?_
 refine W.region ?_
 iterate 2 refine pE rfl ?_
 refine WO.nil (qs (aq rfl (fun h9 => ?_) (fun h9 => ?_)))
 ·
  refine W.skip (qs (W.cE rfl (W.seq (W.region (pE rfl (WO.nil (qs (W.ret (au (an (QF.ar trivial rfl ?_)))))))))))
  simp_all [norm, az, arity, gU, gN, jC, ew, gw, gr]
 refine W.region ?_
 iterate 2 refine pE rfl ?_
 refine WO.nil (qs (aq rfl (fun h9 => ?_) (fun h9 => ?_)))
 ·
  refine W.seq (W.region (pE rfl (WO.nil (qs (W.ret (au (an (QF.ar trivial rfl ?_))))))))
  simp_all [norm, az, arity, gU, gN, jC, ew, gw, gr]
 refine W.skip (a0 (qs (W.seq (W.region (pE rfl (WO.nil (qs (W.ret (QF.ar trivial rfl ?_)))))))))
 simp_all [norm, az, arity, gU, gN, jC, ew, gw, gr]
theorem rz (k : Int) (v : aD) : aw Try.prog 32 [.d (.v (.int .i64 k)), .ag v.c] (.d (.v (.int .i64 (bU k v)))) 0 := by
 refine aw.a8 (n := 85) (ts := [4]) Try.func32 (by kernel_rfl) rfl Try.ntmps32 Try.results32 rfl rfl fun C hC hG => ?_
 refine W.seq (W.region (bM rfl rfl rfl (pE rfl (WO.nil (qs (W.seq ?_))))))
 apply aI; (case hb => rfl)
 ·
  iterate 3 refine pE rfl ?_
  apply aC; (case hj => rfl); (case hl => rfl)
  ·
   iterate 2 refine ay rfl rfl rfl rfl ?_
   iterate 2 refine pE rfl ?_
   iterate 2 refine ay rfl rfl rfl rfl ?_
   iterate 2 refine pE rfl ?_
   refine WO.nil (aA rfl rfl rfl)
  refine ah rfl rfl (pE rfl (ah rfl rfl ?_))
  iterate 3 refine pE rfl ?_
  apply aC; (case hj => rfl); (case hl => rfl)
  ·
   iterate 2 refine ay rfl rfl rfl rfl ?_
   iterate 2 refine pE rfl ?_
   refine WO.nil (aA rfl rfl rfl)
  refine ah rfl rfl (pE rfl (ah rfl rfl ?_))
  iterate 3 refine pE rfl ?_
  refine WO.nil (aA rfl rfl rfl)
 refine qs (W.seq (W.block (W.seq ?_)))
 apply aI; (case hb => rfl)
 ·
  refine pE rfl (pE rfl ?_)
  iterate 2 refine pE rfl ?_
  apply aC; (case hj => rfl); (case hl => rfl)
  ·
   refine ah rfl rfl (pE rfl (ah rfl rfl (pE rfl (ah rfl rfl (pE rfl (ah rfl rfl (pE rfl (ah rfl rfl (pE rfl ?_)))))))))
   apply aC; (case hj => rfl); (case hl => rfl)
   ·
    iterate 2 refine ay rfl rfl rfl rfl ?_
    refine ah rfl rfl ?_
    iterate 3 refine pE rfl ?_
    refine WO.nil (aA rfl rfl rfl)
   refine ah rfl rfl (pE rfl (ah rfl rfl (pE rfl (ah rfl rfl ?_))))
   iterate 3 refine pE rfl ?_
   refine WO.nil (aA rfl rfl rfl)
  iterate 5 refine ay rfl rfl rfl rfl ?_
  iterate 2 refine gK rfl rfl rfl ?_
  refine ay rfl rfl rfl rfl ?_
  iterate 2 refine pE rfl ?_
  refine WO.nil (aA rfl rfl rfl)
 refine qs (aq rfl (fun h16 => ?_) (fun h16 => ?_))
 ·
  refine W.seq (W.region (pE rfl (WO.nil (qs (W.ret (au (an (QF.ar trivial rfl ?_))))))))
  simp only [norm, az, aD.c] at *; grind [bU]
 iterate 2 refine W.seq ?_
 apply aI; (case hb => rfl)
 ·
  refine pE rfl (pE rfl ?_)
  iterate 2 refine pE rfl ?_
  apply aC; (case hj => rfl); (case hl => rfl)
  ·
   refine ah rfl rfl (pE rfl (ah rfl rfl (pE rfl (ah rfl rfl ?_))))
   iterate 3 refine pE rfl ?_
   apply aC; (case hj => rfl); (case hl => rfl)
   ·
    refine ah rfl rfl (pE rfl (ah rfl rfl (pE rfl (ah rfl rfl ?_))))
    iterate 3 refine pE rfl ?_
    refine WO.nil (aA rfl rfl rfl)
   iterate 3 refine ay rfl rfl rfl rfl ?_
   iterate 2 refine pE rfl ?_
   refine WO.nil (aA rfl rfl rfl)
  iterate 3 refine ay rfl rfl rfl rfl ?_
  iterate 2 refine pE rfl ?_
  iterate 3 refine ay rfl rfl rfl rfl ?_
  iterate 2 refine pE rfl ?_
  refine WO.nil (aA rfl rfl rfl)
 refine qs (aq rfl (fun h30 => ?_) (fun h30 => ?_))
 ·
  refine W.skip (qs (W.cE rfl (W.seq (W.region (pE rfl (WO.nil (qs (W.ret (au (an (QF.ar trivial rfl ?_)))))))))))
  simp only [norm, az, aD.c] at *; grind [bU]
 apply aI; (case hb => rfl)
 ·
  refine pE rfl (pE rfl ?_)
  iterate 2 refine pE rfl ?_
  apply aC; (case hj => rfl); (case hl => rfl)
  ·
   refine ah rfl rfl (pE rfl (ah rfl rfl (pE rfl (ah rfl rfl (pu (ae rfl rfl rfl (ye ..) rfl) rfl ?_)))))
   refine ah rfl rfl ?_
   iterate 3 refine pE rfl ?_
   refine WO.nil (aA rfl rfl rfl)
  iterate 4 refine ay rfl rfl rfl rfl ?_
  iterate 2 refine pE rfl ?_
  refine WO.nil (aA rfl rfl rfl)
 refine qs (aq rfl (fun h30 => ?_) (fun h30 => ?_))
 ·
  refine W.seq (W.region (pE rfl (WO.nil (qs (W.ret (au (an (QF.ar trivial rfl ?_))))))))
  simp only [norm, az, aD.c] at *; grind [bU]
 refine W.seq ?_
 apply aI; (case hb => rfl)
 ·
  refine pE rfl (pE rfl ?_)
  iterate 2 refine pE rfl ?_
  apply aC; (case hj => rfl); (case hl => rfl)
  ·
   refine ah rfl rfl (pE rfl (ah rfl rfl (pE rfl (ah rfl rfl (pE rfl (ah rfl rfl ?_))))))
   iterate 3 refine pE rfl ?_
   refine WO.nil (aA rfl rfl rfl)
  iterate 4 refine ay rfl rfl rfl rfl ?_
  iterate 2 refine pE rfl ?_
  refine WO.nil (aA rfl rfl rfl)
 refine qs (aq rfl (fun h53 => ?_) (fun h53 => ?_))
 ·
  refine W.seq (W.region (pE rfl (WO.nil (qs (W.ret (au (an (QF.ar trivial rfl ?_))))))))
  simp only [norm, az, aD.c] at *; grind [bU]
 iterate 2 refine W.seq ?_
 apply aI; (case hb => rfl)
 ·
  refine pE rfl (pE rfl ?_)
  iterate 2 refine pE rfl ?_
  apply aC; (case hj => rfl); (case hl => rfl)
  ·
   refine ah rfl rfl (pE rfl (ah rfl rfl (pE rfl (ah rfl rfl ?_))))
   iterate 3 refine pE rfl ?_
   refine WO.nil (aA rfl rfl rfl)
  iterate 3 refine ay rfl rfl rfl rfl ?_
  iterate 2 refine pE rfl ?_
  refine WO.nil (aA rfl rfl rfl)
 refine qs (aq rfl (fun h63 => ?_) (fun h63 => ?_))
 ·
  refine W.skip (qs (W.cE rfl (W.seq (W.region (pE rfl (WO.nil (qs (W.ret (au (an (QF.ar trivial rfl ?_)))))))))))
  simp only [norm, az, aD.c] at *; grind [bU]
 apply aI; (case hb => rfl)
 ·
  refine pE rfl (pE rfl ?_)
  iterate 2 refine pE rfl ?_
  apply aC; (case hj => rfl); (case hl => rfl)
  ·
   iterate 3 refine ay rfl rfl rfl rfl ?_
   iterate 2 refine pE rfl ?_
   refine ah rfl rfl (pE rfl (ah rfl rfl (pE rfl (ah rfl rfl ?_))))
   iterate 3 refine pE rfl ?_
   refine WO.nil (aA rfl rfl rfl)
  refine ah rfl rfl (pE rfl (ah rfl rfl (pE rfl (ah rfl rfl ?_))))
  iterate 3 refine pE rfl ?_
  apply aC; (case hj => rfl); (case hl => rfl)
  ·
   refine ah rfl rfl (pE rfl (ah rfl rfl (pE rfl (ah rfl rfl ?_))))
   iterate 3 refine pE rfl ?_
   refine WO.nil (aA rfl rfl rfl)
  iterate 3 refine ay rfl rfl rfl rfl ?_
  iterate 2 refine pE rfl ?_
  refine WO.nil (aA rfl rfl rfl)
 refine qs (aq rfl (fun h63 => ?_) (fun h63 => ?_))
 ·
  refine W.seq (W.region (pE rfl (WO.nil (qs (W.ret (au (an (QF.ar trivial rfl ?_))))))))
  simp only [norm, az, aD.c] at *; grind [bU]
 refine W.skip (a0 (qs (W.seq (W.region (pE rfl (WO.nil (qs (W.ret (QF.ar trivial rfl ?_)))))))))
 simp only [norm, az, aD.c] at *; grind [bU]
end Go.Proofs.Ytjenenllmjlimaa
namespace Go.Proofs.Ytjenenllmjlimaa
open Go.Ab Go.Tb
set_option maxRecDepth 10000
attribute [local irreducible] W WO Pu QS QB QL QF QV bO CH QE
theorem mE (fid : Nat) (caps : List A) (hc : Still caps) (p : Col → Bool) (hp : ∀ x : Col, aw Try.prog fid (.ag x.c :: caps) (.d (.v (.bool (p x)))) 0) (l : List Col) :
  aw Try.prog 41 [.d (.sl (l.map Col.c)), .clo fid caps] (.d (.v (.int .i64 (idx (l.findIdx? p))))) 0 := by
 refine aw.a8 (n := 19) (ts := [4]) Try.func41 (by kernel_rfl) rfl Try.ntmps41 Try.results41 rfl rfl fun C hC hG => ?_
 refine W.seq (W.region (pE rfl (WO.nil (qs ?_))))
 iterate 2 refine W.seq ?_
 refine W.region ?_
 iterate 3 refine pE rfl ?_
 refine WO.nil (qs (W.block (W.len (t := 0) rfl rfl (fun hlen => ?_))))
 try simp only [List.length_map, Ex.aF] at hlen
 refine W.aW (ι := {x : Nat // match x with | k => k ≤ l.length ∧ bH p l k})
  (fun x => match x.1 with | k => [(8, .d (.v (.int .i64 ((k : Nat) : Int))))]) [(0, _), (1, _), (7, _)]
  (fun x => match x.1 with | k => []) [] [] 0 (fun x => match x.1 with | k => l.length - k)
  [] ⟨0, ?_⟩ rfl ?_ ⟨rfl, (by first | rfl | exact hc.2), rfl, (by first | rfl | exact hc.2), rfl, (by first | rfl | exact hc.2), trivial⟩ ?_ trivial rfl ?_
 · exact ⟨Nat.zero_le _, bH.zero⟩
 · repeat' first | exact trivial | refine ⟨rfl, ?_⟩
 · repeat' exact trivial
 rintro ⟨k, hk, hI⟩
 show W _ _ _ _ _ ⟨[(8, .d (.v (.int .i64 ((k : Nat) : Int)))), (0, _), (1, _), (7, _)], [], [], 0⟩
 refine W.seq (W.region (pE rfl (WO.nil (qs (W.seq (bg (l := l) (k := k) rfl (by simp [Ex.aF, aK]) hk (fun x hx hd hlt => ?_) (fun he hd => ?_)))))))
 ·
  refine W.skip (qs (W.seq (W.block (W.seq (W.region ?_)))))
  iterate 2 refine pE rfl ?_
  refine WO.nil (qs (W.seq (W.region ?_)))
  iterate 3 refine pE rfl ?_
  refine pu (indexAddr aa rfl rfl rfl rfl rfl rfl (Int.natCast_nonneg _) (aH (by assumption)) rfl) rfl ?_
  refine pE rfl (pu (ae rfl rfl (by rw [List.map_append, hc.1 _ 3]; rfl) (hp x) rfl) rfl ?_)
  refine WO.nil (qs (aq rfl (fun h16 => ?_) (fun h16 => ?_)))
  ·
   refine W.seq (W.region ?_)
   iterate 2 refine pE rfl ?_
   refine WO.nil (qs (W.ret (au (an (bw (au (an (QF.ar trivial rfl ?_))))))))
   simp only [norm, az]; rw [hI.found hx h16]; rfl
  refine W.skip (a0 (qs (W.region ?_)))
  iterate 2 refine pE rfl ?_
  refine WO.nil (W.aY [] ⟨k + 1, ?_⟩ ?_ rfl ?_ ⟨rfl, (by first | rfl | exact hc.2), rfl, (by first | rfl | exact hc.2), rfl, (by first | rfl | exact hc.2), trivial⟩ ?_ trivial rfl)
  · exact ⟨hlt, hI.step hx h16⟩
  · dsimp only; omega
  · repeat' first | exact trivial | refine ⟨aE (by assumption) (by assumption), ?_⟩
  repeat' exact trivial
 refine W.exit (aN (aR (aO (qs (W.seq (W.region (pE rfl (WO.nil (qs (W.ret (QF.ar trivial rfl ?_)))))))))))
 simp only [norm, az]; rw [hI.end_ he]; rfl
theorem uM (fid : Nat) (caps : List A) (hc : Still caps) (p : ByteArray → Bool) (hp : ∀ x : ByteArray, aw Try.prog fid (.d (.v (.string x)) :: caps) (.d (.v (.bool (p x)))) 0) (l : List ByteArray) :
  aw Try.prog 98 [.d (.sl (l.map sc)), .clo fid caps] (.d (.v (.int .i64 (idx (l.findIdx? p))))) 0 := by
 refine aw.a8 (n := 19) (ts := [4]) Try.func98 (by kernel_rfl) rfl Try.ntmps98 Try.results98 rfl rfl fun C hC hG => ?_
 refine W.seq (W.region (pE rfl (WO.nil (qs ?_))))
 iterate 2 refine W.seq ?_
 refine W.region ?_
 iterate 3 refine pE rfl ?_
 refine WO.nil (qs (W.block (W.len (t := 0) rfl rfl (fun hlen => ?_))))
 try simp only [List.length_map, Ex.aF] at hlen
 refine W.aW (ι := {x : Nat // match x with | k => k ≤ l.length ∧ bH p l k})
  (fun x => match x.1 with | k => [(8, .d (.v (.int .i64 ((k : Nat) : Int))))]) [(0, _), (1, _), (7, _)]
  (fun x => match x.1 with | k => []) [] [] 0 (fun x => match x.1 with | k => l.length - k)
  [] ⟨0, ?_⟩ rfl ?_ ⟨rfl, (by first | rfl | exact hc.2), rfl, (by first | rfl | exact hc.2), rfl, (by first | rfl | exact hc.2), trivial⟩ ?_ trivial rfl ?_
 · exact ⟨Nat.zero_le _, bH.zero⟩
 · repeat' first | exact trivial | refine ⟨rfl, ?_⟩
 · repeat' exact trivial
 rintro ⟨k, hk, hI⟩
 show W _ _ _ _ _ ⟨[(8, .d (.v (.int .i64 ((k : Nat) : Int)))), (0, _), (1, _), (7, _)], [], [], 0⟩
 refine W.seq (W.region (pE rfl (WO.nil (qs (W.seq (bg (l := l) (k := k) rfl (by simp [Ex.aF, aK]) hk (fun x hx hd hlt => ?_) (fun he hd => ?_)))))))
 ·
  refine W.skip (qs (W.seq (W.block (W.seq (W.region ?_)))))
  iterate 2 refine pE rfl ?_
  refine WO.nil (qs (W.seq (W.region ?_)))
  iterate 3 refine pE rfl ?_
  refine pu (indexAddr aa rfl rfl rfl rfl rfl rfl (Int.natCast_nonneg _) (aH (by assumption)) rfl) rfl ?_
  refine pE rfl (pu (ae rfl rfl (by rw [List.map_append, hc.1 _ 3]; rfl) (hp x) rfl) rfl ?_)
  refine WO.nil (qs (aq rfl (fun h16 => ?_) (fun h16 => ?_)))
  ·
   refine W.seq (W.region ?_)
   iterate 2 refine pE rfl ?_
   refine WO.nil (qs (W.ret (au (an (bw (au (an (QF.ar trivial rfl ?_))))))))
   simp only [norm, az]; rw [hI.found hx h16]; rfl
  refine W.skip (a0 (qs (W.region ?_)))
  iterate 2 refine pE rfl ?_
  refine WO.nil (W.aY [] ⟨k + 1, ?_⟩ ?_ rfl ?_ ⟨rfl, (by first | rfl | exact hc.2), rfl, (by first | rfl | exact hc.2), rfl, (by first | rfl | exact hc.2), trivial⟩ ?_ trivial rfl)
  · exact ⟨hlt, hI.step hx h16⟩
  · dsimp only; omega
  · repeat' first | exact trivial | refine ⟨aE (by assumption) (by assumption), ?_⟩
  repeat' exact trivial
 refine W.exit (aN (aR (aO (qs (W.seq (W.region (pE rfl (WO.nil (qs (W.ret (QF.ar trivial rfl ?_)))))))))))
 simp only [norm, az]; rw [hI.end_ he]; rfl
theorem tE (fid : Nat) (caps : List A) (hc : Still caps) (p : Int → Bool) (hp : ∀ x : Int, aw Try.prog fid (.d (.v (.int .i64 x)) :: caps) (.d (.v (.bool (p x)))) 0) (l : List Int) :
  aw Try.prog 103 [.d (.sl (l.map ic)), .clo fid caps] (.d (.v (.int .i64 (idx (l.findIdx? p))))) 0 := by
 refine aw.a8 (n := 19) (ts := [4]) Try.func103 (by kernel_rfl) rfl Try.ntmps103 Try.results103 rfl rfl fun C hC hG => ?_
 refine W.seq (W.region (pE rfl (WO.nil (qs ?_))))
 iterate 2 refine W.seq ?_
 refine W.region ?_
 iterate 3 refine pE rfl ?_
 refine WO.nil (qs (W.block (W.len (t := 0) rfl rfl (fun hlen => ?_))))
 try simp only [List.length_map, Ex.aF] at hlen
 refine W.aW (ι := {x : Nat // match x with | k => k ≤ l.length ∧ bH p l k})
  (fun x => match x.1 with | k => [(8, .d (.v (.int .i64 ((k : Nat) : Int))))]) [(0, _), (1, _), (7, _)]
  (fun x => match x.1 with | k => []) [] [] 0 (fun x => match x.1 with | k => l.length - k)
  [] ⟨0, ?_⟩ rfl ?_ ⟨rfl, (by first | rfl | exact hc.2), rfl, (by first | rfl | exact hc.2), rfl, (by first | rfl | exact hc.2), trivial⟩ ?_ trivial rfl ?_
 · exact ⟨Nat.zero_le _, bH.zero⟩
 · repeat' first | exact trivial | refine ⟨rfl, ?_⟩
 · repeat' exact trivial
 rintro ⟨k, hk, hI⟩
 show W _ _ _ _ _ ⟨[(8, .d (.v (.int .i64 ((k : Nat) : Int)))), (0, _), (1, _), (7, _)], [], [], 0⟩
 refine W.seq (W.region (pE rfl (WO.nil (qs (W.seq (bg (l := l) (k := k) rfl (by simp [Ex.aF, aK]) hk (fun x hx hd hlt => ?_) (fun he hd => ?_)))))))
 ·
  refine W.skip (qs (W.seq (W.block (W.seq (W.region ?_)))))
  iterate 2 refine pE rfl ?_
  refine WO.nil (qs (W.seq (W.region ?_)))
  iterate 3 refine pE rfl ?_
  refine pu (indexAddr aa rfl rfl rfl rfl rfl rfl (Int.natCast_nonneg _) (aH (by assumption)) rfl) rfl ?_
  refine pE rfl (pu (ae rfl rfl (by rw [List.map_append, hc.1 _ 3]; rfl) (hp x) rfl) rfl ?_)
  refine WO.nil (qs (aq rfl (fun h16 => ?_) (fun h16 => ?_)))
  ·
   refine W.seq (W.region ?_)
   iterate 2 refine pE rfl ?_
   refine WO.nil (qs (W.ret (au (an (bw (au (an (QF.ar trivial rfl ?_))))))))
   simp only [norm, az]; rw [hI.found hx h16]; rfl
  refine W.skip (a0 (qs (W.region ?_)))
  iterate 2 refine pE rfl ?_
  refine WO.nil (W.aY [] ⟨k + 1, ?_⟩ ?_ rfl ?_ ⟨rfl, (by first | rfl | exact hc.2), rfl, (by first | rfl | exact hc.2), rfl, (by first | rfl | exact hc.2), trivial⟩ ?_ trivial rfl)
  · exact ⟨hlt, hI.step hx h16⟩
  · dsimp only; omega
  · repeat' first | exact trivial | refine ⟨aE (by assumption) (by assumption), ?_⟩
  repeat' exact trivial
 refine W.exit (aN (aR (aO (qs (W.seq (W.region (pE rfl (WO.nil (qs (W.ret (QF.ar trivial rfl ?_)))))))))))
 simp only [norm, az]; rw [hI.end_ he]; rfl
theorem we (l : List ByteArray) (s : ByteArray) : aw Try.prog 61 [.d (.sl (l.map sc)), .d (.v (.string s))] (.d (.v (.int .i64 (idx (l.findIdx? fun x => decide (s = x)))))) 0 := by
 refine aw.a8 (n := 19) (ts := [4]) Try.func61 (by kernel_rfl) rfl Try.ntmps61 Try.results61 rfl rfl fun C hC hG => ?_
 refine W.seq (W.region (pE rfl (WO.nil (qs ?_))))
 iterate 2 refine W.seq ?_
 refine W.region ?_
 iterate 3 refine pE rfl ?_
 refine WO.nil (qs (W.block (W.len (t := 0) rfl rfl (fun hlen => ?_))))
 try simp only [List.length_map, Ex.aF] at hlen
 refine W.aW (ι := {x : Nat // match x with | k => k ≤ l.length ∧ bH (fun x => decide (s = x)) l k})
  (fun x => match x.1 with | k => [(8, .d (.v (.int .i64 ((k : Nat) : Int))))]) [(0, _), (1, _), (7, _)]
  (fun x => match x.1 with | k => []) [] [] 0 (fun x => match x.1 with | k => l.length - k)
  [] ⟨0, ?_⟩ rfl ?_ ⟨rfl, rfl, rfl, rfl, rfl, rfl, trivial⟩ ?_ trivial rfl ?_
 · exact ⟨Nat.zero_le _, bH.zero⟩
 · repeat' first | exact trivial | refine ⟨rfl, ?_⟩
 · repeat' exact trivial
 rintro ⟨k, hk, hI⟩
 show W _ _ _ _ _ ⟨[(8, .d (.v (.int .i64 ((k : Nat) : Int)))), (0, _), (1, _), (7, _)], [], [], 0⟩
 refine W.seq (W.region (pE rfl (WO.nil (qs (W.seq (bg (l := l) (k := k) rfl (by simp [Ex.aF, aK]) hk (fun x hx hd hlt => ?_) (fun he hd => ?_)))))))
 ·
  refine W.skip (qs (W.seq (W.block (W.seq (W.region ?_)))))
  iterate 2 refine pE rfl ?_
  refine WO.nil (qs (W.seq (W.region ?_)))
  iterate 3 refine pE rfl ?_
  refine pu (indexAddr aa rfl rfl rfl rfl rfl rfl (Int.natCast_nonneg _) (aH (by assumption)) rfl) rfl ?_
  refine pE rfl (pE rfl (WO.nil (qs (aq rfl (fun h16 => ?_) (fun h16 => ?_)))))
  ·
   refine W.seq (W.region ?_)
   iterate 2 refine pE rfl ?_
   refine WO.nil (qs (W.ret (au (an (bw (au (an (QF.ar trivial rfl ?_))))))))
   simp only [norm, az]; rw [hI.found hx h16]; rfl
  refine W.skip (a0 (qs (W.region ?_)))
  iterate 2 refine pE rfl ?_
  refine WO.nil (W.aY [] ⟨k + 1, ?_⟩ ?_ rfl ?_ ⟨rfl, rfl, rfl, rfl, rfl, rfl, trivial⟩ ?_ trivial rfl)
  · exact ⟨hlt, hI.step hx h16⟩
  · dsimp only; omega
  · repeat' first | exact trivial | refine ⟨aE (by assumption) (by assumption), ?_⟩
  repeat' exact trivial
 refine W.exit (aN (aR (aO (qs (W.seq (W.region (pE rfl (WO.nil (qs (W.ret (QF.ar trivial rfl ?_)))))))))))
 simp only [norm, az]; rw [hI.end_ he]; rfl
theorem uc (l : List Int) (s : Int) : aw Try.prog 101 [.d (.sl (l.map ic)), .d (.v (.int .i64 s))] (.d (.v (.int .i64 (idx (l.findIdx? fun x => decide (s = x)))))) 0 := by
 refine aw.a8 (n := 19) (ts := [4]) Try.func101 (by kernel_rfl) rfl Try.ntmps101 Try.results101 rfl rfl fun C hC hG => ?_
 refine W.seq (W.region (pE rfl (WO.nil (qs ?_))))
 iterate 2 refine W.seq ?_
 refine W.region ?_
 iterate 3 refine pE rfl ?_
 refine WO.nil (qs (W.block (W.len (t := 0) rfl rfl (fun hlen => ?_))))
 try simp only [List.length_map, Ex.aF] at hlen
 refine W.aW (ι := {x : Nat // match x with | k => k ≤ l.length ∧ bH (fun x => decide (s = x)) l k})
  (fun x => match x.1 with | k => [(8, .d (.v (.int .i64 ((k : Nat) : Int))))]) [(0, _), (1, _), (7, _)]
  (fun x => match x.1 with | k => []) [] [] 0 (fun x => match x.1 with | k => l.length - k)
  [] ⟨0, ?_⟩ rfl ?_ ⟨rfl, rfl, rfl, rfl, rfl, rfl, trivial⟩ ?_ trivial rfl ?_
 · exact ⟨Nat.zero_le _, bH.zero⟩
 · repeat' first | exact trivial | refine ⟨rfl, ?_⟩
 · repeat' exact trivial
 rintro ⟨k, hk, hI⟩
 show W _ _ _ _ _ ⟨[(8, .d (.v (.int .i64 ((k : Nat) : Int)))), (0, _), (1, _), (7, _)], [], [], 0⟩
 refine W.seq (W.region (pE rfl (WO.nil (qs (W.seq (bg (l := l) (k := k) rfl (by simp [Ex.aF, aK]) hk (fun x hx hd hlt => ?_) (fun he hd => ?_)))))))
 ·
  refine W.skip (qs (W.seq (W.block (W.seq (W.region ?_)))))
  iterate 2 refine pE rfl ?_
  refine WO.nil (qs (W.seq (W.region ?_)))
  iterate 3 refine pE rfl ?_
  refine pu (indexAddr aa rfl rfl rfl rfl rfl rfl (Int.natCast_nonneg _) (aH (by assumption)) rfl) rfl ?_
  refine pE rfl (pE rfl (WO.nil (qs (aq rfl (fun h16 => ?_) (fun h16 => ?_)))))
  ·
   refine W.seq (W.region ?_)
   iterate 2 refine pE rfl ?_
   refine WO.nil (qs (W.ret (au (an (bw (au (an (QF.ar trivial rfl ?_))))))))
   simp only [norm, az]; rw [hI.found hx h16]; rfl
  refine W.skip (a0 (qs (W.region ?_)))
  iterate 2 refine pE rfl ?_
  refine WO.nil (W.aY [] ⟨k + 1, ?_⟩ ?_ rfl ?_ ⟨rfl, rfl, rfl, rfl, rfl, rfl, trivial⟩ ?_ trivial rfl)
  · exact ⟨hlt, hI.step hx h16⟩
  · dsimp only; omega
  · repeat' first | exact trivial | refine ⟨aE (by assumption) (by assumption), ?_⟩
  repeat' exact trivial
 refine W.exit (aN (aR (aO (qs (W.seq (W.region (pE rfl (WO.nil (qs (W.ret (QF.ar trivial rfl ?_)))))))))))
 simp only [norm, az]; rw [hI.end_ he]; rfl
theorem dF (l : List ByteArray) (s : ByteArray) : aw Try.prog 39 [.d (.sl (l.map sc)), .d (.v (.string s))] (.d (.v (.bool (l.any fun x => decide (s = x))))) 0 := by
 refine aw.a8 (n := 9) (ts := [4]) Try.func39 (by kernel_rfl) rfl Try.ntmps39 Try.results39 rfl rfl fun C hC hG => ?_
 refine W.seq (W.region (pE rfl (WO.nil (qs (W.seq (W.region ?_))))))
 iterate 2 refine pE rfl ?_
 refine pu (ae rfl rfl rfl (we ..) rfl) rfl ?_
 iterate 2 refine pE rfl ?_
 refine WO.nil (qs (W.ret (QF.ar trivial rfl ?_)))
 simp only [norm, az]; rw [← dh]
theorem qU (l : List Int) (s : Int) : aw Try.prog 90 [.d (.sl (l.map ic)), .d (.v (.int .i64 s))] (.d (.v (.bool (l.any fun x => decide (s = x))))) 0 := by
 refine aw.a8 (n := 9) (ts := [4]) Try.func90 (by kernel_rfl) rfl Try.ntmps90 Try.results90 rfl rfl fun C hC hG => ?_
 refine W.seq (W.region (pE rfl (WO.nil (qs (W.seq (W.region ?_))))))
 iterate 2 refine pE rfl ?_
 refine pu (ae rfl rfl rfl (uc ..) rfl) rfl ?_
 iterate 2 refine pE rfl ?_
 refine WO.nil (qs (W.ret (QF.ar trivial rfl ?_)))
 simp only [norm, az]; rw [← dh]
theorem pL (fid : Nat) (caps : List A) (hc : Still caps) (p : ByteArray → Bool) (hp : ∀ x : ByteArray, aw Try.prog fid (.d (.v (.string x)) :: caps) (.d (.v (.bool (p x)))) 0) (l : List ByteArray) :
  aw Try.prog 83 [.d (.sl (l.map sc)), .clo fid caps] (.d (.v (.bool (l.any p)))) 0 := by
 refine aw.a8 (n := 9) (ts := [4]) Try.func83 (by kernel_rfl) rfl Try.ntmps83 Try.results83 rfl rfl fun C hC hG => ?_
 refine W.seq (W.region (pE rfl (WO.nil (qs (W.seq (W.region ?_))))))
 iterate 2 refine pE rfl ?_
 refine pu (ae (args := [.d (.sl (l.map sc)), .clo fid caps]) rfl rfl (by simp [conv, hc.1 _ 2]) (uM fid caps hc p hp l) rfl) rfl ?_
 iterate 2 refine pE rfl ?_
 refine WO.nil (qs (W.ret (QF.ar trivial rfl ?_)))
 simp only [norm, az]; rw [← dh]
theorem pz (fid : Nat) (caps : List A) (hc : Still caps) (p : Int → Bool) (hp : ∀ x : Int, aw Try.prog fid (.d (.v (.int .i64 x)) :: caps) (.d (.v (.bool (p x)))) 0) (l : List Int) :
  aw Try.prog 96 [.d (.sl (l.map ic)), .clo fid caps] (.d (.v (.bool (l.any p)))) 0 := by
 refine aw.a8 (n := 9) (ts := [4]) Try.func96 (by kernel_rfl) rfl Try.ntmps96 Try.results96 rfl rfl fun C hC hG => ?_
 refine W.seq (W.region (pE rfl (WO.nil (qs (W.seq (W.region ?_))))))
 iterate 2 refine pE rfl ?_
 refine pu (ae (args := [.d (.sl (l.map ic)), .clo fid caps]) rfl rfl (by simp [conv, hc.1 _ 2]) (tE fid caps hc p hp l) rfl) rfl ?_
 iterate 2 refine pE rfl ?_
 refine WO.nil (qs (W.ret (QF.ar trivial rfl ?_)))
 simp only [norm, az]; rw [← dh]
theorem vM (name : ByteArray) (x : Col) : aw Try.prog 80 [.ag x.c, .row [.d (.v (.string name))]] (.d (.v (.bool (decide (x.name = name))))) 0 := by
 refine aw.a8 (n := 8) (ts := [3]) Try.func80 (by kernel_rfl) rfl Try.ntmps80 Try.results80 rfl rfl fun C hC hG => ?_
 refine W.seq (W.region (bM rfl rfl rfl (pE rfl (WO.nil (qs (W.seq (W.region (pE rfl (pE rfl (pE rfl ?_))))))))))
 iterate 2 refine pE rfl ?_
 refine WO.nil (qs (W.ret (QF.ar trivial rfl ?_)))
 rfl
theorem fM (ab : List Col) (name : ByteArray) : aw Try.prog 57 [.d (.sl (ab.map Col.c)), .d (.v (.string name))] (.d (.v (.int .i64 (idx (ab.findIdx? fun x => decide (x.name = name)))))) 0 := by
 refine aw.a8 (n := 8) (ts := [4]) Try.func57 (by kernel_rfl) rfl Try.ntmps57 Try.results57 rfl rfl fun C hC hG => ?_
 refine W.seq (W.region (bM rfl rfl rfl (pE rfl (WO.nil (qs (W.seq (W.region ?_)))))))
 iterate 2 refine pE rfl ?_
 refine pu (ae rfl rfl rfl (mE _ _ ⟨fun _ _ => rfl, rfl⟩ _ (vM name) ab) rfl) rfl ?_
 refine pE rfl (WO.nil (qs (W.ret (QF.ar trivial rfl ?_))))
 rfl
theorem qy (name : ByteArray) (x : Col) : aw Try.prog 42 [.ag x.c, .row [.d (.v (.string name))]] (.d (.v (.bool (decide (x.name = name))))) 0 := by
 refine aw.a8 (n := 8) (ts := [3]) Try.func42 (by kernel_rfl) rfl Try.ntmps42 Try.results42 rfl rfl fun C hC hG => ?_
 refine W.seq (W.region (bM rfl rfl rfl (pE rfl (WO.nil (qs (W.seq (W.region (pE rfl (pE rfl (pE rfl ?_))))))))))
 iterate 2 refine pE rfl ?_
 refine WO.nil (qs (W.ret (QF.ar trivial rfl ?_)))
 rfl
theorem nf (t : bj) (name : ByteArray) : aw Try.prog 30 [.ag t.c, .d (.v (.string name))] (.d (.v (.int .i64 (idx (t.ab.findIdx? fun x => decide (x.name = name)))))) 0 := by
 refine aw.a8 (n := 9) (ts := [4]) Try.func30 (by kernel_rfl) rfl Try.ntmps30 Try.results30 rfl rfl fun C hC hG => ?_
 refine W.seq (W.region (bM rfl rfl rfl (bM rfl rfl rfl (pE rfl (WO.nil (qs (W.seq (W.region (pE rfl (pE rfl (pE rfl (pu (ae rfl rfl rfl (mE _ _ ⟨fun _ _ => rfl, rfl⟩ _ (qy name) t.ab) rfl) rfl ?_))))))))))))
 refine pE rfl (WO.nil (qs (W.ret (QF.ar trivial rfl ?_))))
 rfl
theorem wN (want : Int) (x : Int) : aw Try.prog 97 [.d (.v (.int .i64 x)), .row [.d (.v (.int .i64 want))]] (.d (.v (.bool (!fits x want)))) 0 := by
 refine aw.a8 (n := 8) (ts := [3]) Try.func97 (by kernel_rfl) rfl Try.ntmps97 Try.results97 rfl rfl fun C hC hG => ?_
 refine W.seq (W.region (pE rfl (WO.nil (qs (W.seq (W.region (pE rfl (pE rfl (pu (ae rfl rfl rfl (jM ..) rfl) rfl ?_)))))))))
 iterate 2 refine pE rfl ?_
 refine WO.nil (qs (W.ret (QF.ar trivial rfl ?_)))
 rfl
theorem eo (l : List Int) (want : Int) : aw Try.prog 77 [.d (.sl (l.map ic)), .d (.v (.int .i64 want))] (.d (.v (.bool (l.all fun k => fits k want)))) 0 := by
 refine aw.a8 (n := 9) (ts := [4]) Try.func77 (by kernel_rfl) rfl Try.ntmps77 Try.results77 rfl rfl fun C hC hG => ?_
 refine W.seq (W.region (bM rfl rfl rfl (pE rfl (WO.nil (qs (W.seq (W.region ?_)))))))
 iterate 2 refine pE rfl ?_
 refine pu (ae rfl rfl rfl (pz _ _ ⟨fun _ _ => rfl, rfl⟩ _ (wN want) l) rfl) rfl ?_
 iterate 2 refine pE rfl ?_
 refine WO.nil (qs (W.ret (QF.ar trivial rfl ?_)))
 simp [norm, az, List.all_eq_not_any_not]
end Go.Proofs.Ytjenenllmjlimaa
namespace Go.Proofs.Ytjenenllmjlimaa
open Go.Ab Go.Tb
set_option maxRecDepth 10000
attribute [local irreducible] W WO Pu QS QB QL QF QV bO CH QE
theorem x7 (s : ByteArray) (b : UInt8) : aw Try.prog 85 [.d (.v (.string s)), .d (.v (.int .u8 b.toNat))] (.d (.v (.int .i64 (Lib.indexByte (dv s) b)))) 0 := by
 refine aw.a8 (n := 8) (ts := [4]) Try.func85 (by kernel_rfl) rfl Try.ntmps85 Try.results85 rfl rfl fun C hC hG => ?_
 refine W.nr (t := 0) rfl (fun hok => ?_)
 refine W.seq (W.region (pE rfl (WO.nil (qs (W.seq (W.region ?_))))))
 iterate 2 refine pE rfl ?_
 refine pu (yg (vs := [.string s, .int .u8 b.toNat]) rfl rfl (fun w => (run_callFunc_extern Try.func99 (by kernel_rfl) (by kernel_rfl) (by kernel_rfl) (by kernel_rfl) #[.string s, .int .u8 b.toNat] w).trans (by rw [show (Extern.BytealgIndexByte.indexByte #[.string s, .int .u8 b.toNat]).run Try.prog w = _ from Lib.run_indexByteString s b.toNat w]; rfl)) (rD hok _)) rfl ?_
 refine pE rfl (WO.nil (qs (W.ret (QF.ar trivial rfl ?_))))
 simp [norm, az, dv]
theorem gZ (s : ByteArray) (b : UInt8) : aw Try.prog 63 [.d (.v (.string s)), .d (.v (.int .u8 b.toNat))] (.d (.v (.int .i64 (Lib.indexByte (dv s) b)))) 0 := by
 refine aw.a8 (n := 8) (ts := [4]) Try.func63 (by kernel_rfl) rfl Try.ntmps63 Try.results63 rfl rfl fun C hC hG => ?_
 refine W.seq (W.region (pE rfl (WO.nil (qs (W.seq (W.region ?_))))))
 iterate 2 refine pE rfl ?_
 refine pu (ae rfl rfl rfl (x7 ..) rfl) rfl ?_
 refine pE rfl (WO.nil (qs (W.ret (QF.ar trivial rfl ?_))))
 rfl
theorem vl (b : UInt8) : aw Try.prog 43 [.d (.v (.int .u8 b.toNat))] (.d (.v (.bool (lg b)))) 0 := by
 refine aw.a8 (n := 30) (ts := [2]) Try.func43 (by kernel_rfl) rfl Try.ntmps43 Try.results43 rfl rfl fun C hC hG => ?_
 refine W.seq (W.region (pE rfl (WO.nil (qs (W.seq ?_)))))
 apply aI; (case hb => rfl)
 ·
  iterate 3 refine pE rfl ?_
  apply aC; (case hj => rfl); (case hl => rfl)
  ·
   refine ah rfl rfl (pE rfl (ah rfl rfl ?_))
   iterate 3 refine pE rfl ?_
   apply aC; (case hj => rfl); (case hl => rfl)
   ·
    iterate 3 refine ay rfl rfl rfl rfl ?_
    iterate 2 refine gK rfl rfl rfl ?_
    refine ay rfl rfl rfl rfl ?_
    iterate 2 refine pE rfl ?_
    iterate 3 refine ay rfl rfl rfl rfl ?_
    iterate 2 refine gK rfl rfl rfl ?_
    refine ay rfl rfl rfl rfl ?_
    iterate 2 refine pE rfl ?_
    iterate 3 refine ay rfl rfl rfl rfl ?_
    iterate 2 refine pE rfl ?_
    refine WO.nil (aA rfl rfl rfl)
   refine ah rfl rfl (pE rfl (ah rfl rfl (pE rfl (ah rfl rfl (pE rfl ?_)))))
   apply aC; (case hj => rfl); (case hl => rfl)
   ·
    refine ah rfl rfl (pE rfl (ah rfl rfl (pE rfl (ah rfl rfl ?_))))
    iterate 3 refine pE rfl ?_
    apply aC; (case hj => rfl); (case hl => rfl)
    ·
     iterate 3 refine ay rfl rfl rfl rfl ?_
     iterate 2 refine gK rfl rfl rfl ?_
     refine ay rfl rfl rfl rfl ?_
     iterate 2 refine pE rfl ?_
     iterate 3 refine ay rfl rfl rfl rfl ?_
     iterate 2 refine pE rfl ?_
     refine WO.nil (aA rfl rfl rfl)
    refine ah rfl rfl (pE rfl (ah rfl rfl (pE rfl (ah rfl rfl (pE rfl ?_)))))
    apply aC; (case hj => rfl); (case hl => rfl)
    ·
     refine ah rfl rfl (pE rfl (ah rfl rfl (pE rfl (ah rfl rfl ?_))))
     iterate 3 refine pE rfl ?_
     apply aC; (case hj => rfl); (case hl => rfl)
     ·
      iterate 3 refine ay rfl rfl rfl rfl ?_
      iterate 2 refine pE rfl ?_
      refine WO.nil (aA rfl rfl rfl)
     refine ah rfl rfl (pE rfl (ah rfl rfl (pu (ae rfl rfl rfl (gZ ..) rfl) rfl ?_)))
     refine ah rfl rfl ?_
     iterate 3 refine pE rfl ?_
     refine WO.nil (aA rfl rfl rfl)
    iterate 2 refine ay rfl rfl rfl rfl ?_
    refine ah rfl rfl ?_
    iterate 3 refine pE rfl ?_
    refine ah rfl rfl (pE rfl (ah rfl rfl (pu (ae rfl rfl rfl (gZ ..) rfl) rfl ?_)))
    refine ah rfl rfl ?_
    iterate 3 refine pE rfl ?_
    refine WO.nil (aA rfl rfl rfl)
   iterate 2 refine ay rfl rfl rfl rfl ?_
   refine ah rfl rfl ?_
   iterate 3 refine pE rfl ?_
   refine ah rfl rfl (pE rfl (ah rfl rfl (pE rfl (ah rfl rfl (pE rfl ?_)))))
   apply aC; (case hj => rfl); (case hl => rfl)
   ·
    refine ah rfl rfl (pE rfl (ah rfl rfl (pE rfl (ah rfl rfl ?_))))
    iterate 3 refine pE rfl ?_
    apply aC; (case hj => rfl); (case hl => rfl)
    ·
     iterate 3 refine ay rfl rfl rfl rfl ?_
     iterate 2 refine pE rfl ?_
     refine WO.nil (aA rfl rfl rfl)
    refine ah rfl rfl (pE rfl (ah rfl rfl (pu (ae rfl rfl rfl (gZ ..) rfl) rfl ?_)))
    refine ah rfl rfl ?_
    iterate 3 refine pE rfl ?_
    refine WO.nil (aA rfl rfl rfl)
   iterate 2 refine ay rfl rfl rfl rfl ?_
   refine ah rfl rfl ?_
   iterate 3 refine pE rfl ?_
   refine ah rfl rfl (pE rfl (ah rfl rfl (pu (ae rfl rfl rfl (gZ ..) rfl) rfl ?_)))
   refine ah rfl rfl ?_
   iterate 3 refine pE rfl ?_
   refine WO.nil (aA rfl rfl rfl)
  iterate 2 refine ay rfl rfl rfl rfl ?_
  iterate 2 refine pE rfl ?_
  refine ah rfl rfl (pE rfl (ah rfl rfl (pE rfl (ah rfl rfl (pE rfl ?_)))))
  apply aC; (case hj => rfl); (case hl => rfl)
  ·
   refine ah rfl rfl (pE rfl (ah rfl rfl (pE rfl (ah rfl rfl ?_))))
   iterate 3 refine pE rfl ?_
   apply aC; (case hj => rfl); (case hl => rfl)
   ·
    iterate 3 refine ay rfl rfl rfl rfl ?_
    iterate 2 refine gK rfl rfl rfl ?_
    refine ay rfl rfl rfl rfl ?_
    iterate 2 refine pE rfl ?_
    iterate 3 refine ay rfl rfl rfl rfl ?_
    iterate 2 refine pE rfl ?_
    refine WO.nil (aA rfl rfl rfl)
   refine ah rfl rfl (pE rfl (ah rfl rfl (pE rfl (ah rfl rfl (pE rfl ?_)))))
   apply aC; (case hj => rfl); (case hl => rfl)
   ·
    refine ah rfl rfl (pE rfl (ah rfl rfl (pE rfl (ah rfl rfl ?_))))
    iterate 3 refine pE rfl ?_
    apply aC; (case hj => rfl); (case hl => rfl)
    ·
     iterate 3 refine ay rfl rfl rfl rfl ?_
     iterate 2 refine pE rfl ?_
     refine WO.nil (aA rfl rfl rfl)
    refine ah rfl rfl (pE rfl (ah rfl rfl (pu (ae rfl rfl rfl (gZ ..) rfl) rfl ?_)))
    refine ah rfl rfl ?_
    iterate 3 refine pE rfl ?_
    refine WO.nil (aA rfl rfl rfl)
   iterate 2 refine ay rfl rfl rfl rfl ?_
   refine ah rfl rfl ?_
   iterate 3 refine pE rfl ?_
   refine ah rfl rfl (pE rfl (ah rfl rfl (pu (ae rfl rfl rfl (gZ ..) rfl) rfl ?_)))
   refine ah rfl rfl ?_
   iterate 3 refine pE rfl ?_
   refine WO.nil (aA rfl rfl rfl)
  iterate 2 refine ay rfl rfl rfl rfl ?_
  refine ah rfl rfl ?_
  iterate 3 refine pE rfl ?_
  refine ah rfl rfl (pE rfl (ah rfl rfl (pE rfl (ah rfl rfl (pE rfl ?_)))))
  apply aC; (case hj => rfl); (case hl => rfl)
  ·
   refine ah rfl rfl (pE rfl (ah rfl rfl (pE rfl (ah rfl rfl ?_))))
   iterate 3 refine pE rfl ?_
   apply aC; (case hj => rfl); (case hl => rfl)
   ·
    iterate 3 refine ay rfl rfl rfl rfl ?_
    iterate 2 refine pE rfl ?_
    refine WO.nil (aA rfl rfl rfl)
   refine ah rfl rfl (pE rfl (ah rfl rfl (pu (ae rfl rfl rfl (gZ ..) rfl) rfl ?_)))
   refine ah rfl rfl ?_
   iterate 3 refine pE rfl ?_
   refine WO.nil (aA rfl rfl rfl)
  iterate 2 refine ay rfl rfl rfl rfl ?_
  refine ah rfl rfl ?_
  iterate 3 refine pE rfl ?_
  refine ah rfl rfl (pE rfl (ah rfl rfl (pu (ae rfl rfl rfl (gZ ..) rfl) rfl ?_)))
  refine ah rfl rfl ?_
  iterate 3 refine pE rfl ?_
  refine WO.nil (aA rfl rfl rfl)
 refine qs (W.ret (QF.ar trivial rfl ?_))
 simp only [norm, az]; rw [qW]; simp only [lg, lower, marks]; simp [dv]; grind
theorem xd (s : ByteArray) : aw Try.prog 31 [.d (.v (.string s))] (.d (.v (.int .i64 (ec s)))) 0 := by
 refine aw.a8 (n := 22) (ts := [2]) Try.func31 (by kernel_rfl) rfl Try.ntmps31 Try.results31 rfl rfl fun C hC hG => ?_
 refine W.seq (W.region (pE rfl (WO.nil (qs ?_))))
 iterate 2 refine W.seq ?_
 apply aI; (case hb => rfl)
 ·
  iterate 3 refine pE rfl ?_
  apply aC; (case hj => rfl); (case hl => rfl)
  ·
   iterate 3 refine ay rfl rfl rfl rfl ?_
   refine pE rfl (WO.nil (aA rfl rfl rfl))
  refine ah rfl rfl (pE rfl (ah rfl rfl (pE rfl (ah rfl rfl ?_))))
  iterate 2 refine pE rfl ?_
  refine WO.nil (aA rfl rfl rfl)
 refine qs (aq rfl (fun h10 => ?_) (fun h10 => ?_))
 ·
  refine W.seq (W.region (pE rfl (WO.nil (qs (W.ret (an (QF.ar trivial rfl ?_)))))))
  simp only [norm, az]; grind [ec, jc]
 refine W.skip (qs ?_)
 iterate 2 refine W.seq ?_
 refine W.region ?_
 iterate 3 refine pE rfl ?_
 refine WO.nil (qs (W.block (W.nr (t := 0) rfl (fun hok => ?_))))
 have hlen := lr hok
 refine W.aW (ι := {x : Nat // match x with | k => k ≤ (dv s).length ∧ ((dv s).drop k).all lg = (dv s).all lg})
  (fun x => match x.1 with | k => [(13, .d (.v (.int .i64 ((k : Nat) : Int))))]) [(0, _), (12, _)]
  (fun x => match x.1 with | k => []) [] [] 0 (fun x => match x.1 with | k => (dv s).length - k)
  [] ⟨0, ?_⟩ rfl ?_ ⟨rfl, rfl, rfl, rfl, trivial⟩ ?_ trivial rfl ?_
 · exact ⟨Nat.zero_le _, rfl⟩
 · repeat' first | exact trivial | refine ⟨rfl, ?_⟩
 · repeat' exact trivial
 rintro ⟨k, hk, hI⟩
 show W _ _ _ _ _ ⟨[(13, .d (.v (.int .i64 ((k : Nat) : Int)))), (0, _), (12, _)], [], [], 0⟩
 refine W.seq (W.region (pE rfl (WO.nil (qs (W.seq (bg (l := dv s) (k := k) rfl (by simp [Ex.aF, aK]) hk (fun b hx hd hlt => ?_) (fun he hd => ?_)))))))
 ·
  rw [hd, List.all_cons] at hI
  refine W.skip (qs (W.seq (W.block (W.seq (W.region ?_)))))
  iterate 2 refine pE rfl ?_
  refine WO.nil (qs (W.seq (W.region ?_)))
  iterate 2 refine pE rfl ?_
  refine pu (gW aa rfl rfl rfl rfl (Int.natCast_nonneg _) (lq (by assumption))) rfl ?_
  refine pu (ae rfl rfl rfl (vl ..) rfl) rfl ?_
  refine pE rfl (WO.nil (qs (aq rfl (fun h20 => ?_) (fun h20 => ?_))))
  ·
   refine W.seq (W.region (pE rfl (WO.nil (qs (W.ret (au (an (bw (au (an (QF.ar trivial rfl ?_)))))))))))
   simp only [norm, az]; grind [ec, jc]
  refine W.skip (a0 (qs (W.region ?_)))
  iterate 2 refine pE rfl ?_
  refine WO.nil (W.aY [] ⟨k + 1, ?_⟩ ?_ rfl ?_ ⟨rfl, rfl, rfl, rfl, trivial⟩ ?_ trivial rfl)
  · exact ⟨hlt, by rw [← hI]; simp_all⟩
  · dsimp only; omega
  · repeat' first | exact trivial | refine ⟨aE (by assumption) (by assumption), ?_⟩
  repeat' exact trivial
 rw [hd] at hI
 refine W.exit (aN (aR (aO (qs (W.seq (W.region (pE rfl (WO.nil (qs (W.ret (QF.ar trivial rfl ?_)))))))))))
 simp only [norm, az]; grind [ec, jc]
theorem fq (s : ByteArray) : aw Try.prog 75 [.d (.v (.string s))] (.d (.v (.bool (fR s)))) 0 := by
 refine aw.a8 (n := 53) (ts := [2]) Try.func75 (by kernel_rfl) rfl Try.ntmps75 Try.results75 rfl rfl fun C hC hG => ?_
 refine W.seq (W.region (pE rfl (WO.nil (qs ?_))))
 iterate 2 refine W.seq ?_
 apply aI; (case hb => rfl)
 ·
  iterate 3 refine pE rfl ?_
  apply eF; (case hj => rfl); (case hl => rfl)
  ·
   intro g7
   iterate 3 refine ay rfl rfl rfl rfl ?_
   iterate 2 refine pE rfl ?_
   iterate 3 refine ay rfl rfl rfl rfl ?_
   iterate 2 refine pE rfl ?_
   iterate 3 refine ay rfl rfl rfl rfl ?_
   refine pE rfl (WO.nil (aA rfl rfl rfl))
  intro g7
  refine ah rfl rfl (pE rfl (ah rfl rfl (pE rfl (ah rfl rfl ?_))))
  iterate 3 refine pE rfl ?_
  apply eF; (case hj => rfl); (case hl => rfl)
  ·
   intro g12
   iterate 3 refine ay rfl rfl rfl rfl ?_
   iterate 2 refine pE rfl ?_
   iterate 3 refine ay rfl rfl rfl rfl ?_
   refine pE rfl (WO.nil (aA rfl rfl rfl))
  intro g12
  refine ah rfl rfl (pE rfl (ah rfl rfl (pu (gW aa rfl rfl rfl rfl (Int.le_refl _) (qu (by simpa using g7))) rfl ?_)))
  refine ah rfl rfl ?_
  iterate 3 refine pE rfl ?_
  apply eF; (case hj => rfl); (case hl => rfl)
  ·
   intro g17
   iterate 3 refine ay rfl rfl rfl rfl ?_
   refine pE rfl (WO.nil (aA rfl rfl rfl))
  intro g17
  refine ah rfl rfl (pE rfl (ah rfl rfl (pu (gW aa rfl rfl rfl rfl (Int.le_refl _) (qu (by simpa using g7))) rfl ?_)))
  refine ah rfl rfl ?_
  iterate 2 refine pE rfl ?_
  refine WO.nil (aA rfl rfl rfl)
 refine qs (aq rfl (fun h21 => ?_) (fun h21 => ?_))
 ·
  refine W.seq (W.region (pE rfl (WO.nil (qs (W.ret (an (QF.ar trivial rfl ?_)))))))
  simp only [norm, az]; grind [fR, jc, lower]
 refine W.skip (qs ?_)
 iterate 2 refine W.seq ?_
 refine W.region ?_
 iterate 3 refine pE rfl ?_
 refine WO.nil (qs (W.block (W.nr (t := 0) rfl (fun hok => ?_))))
 have hlen := lr hok
 refine W.aW (ι := {x : Nat // match x with | k => k ≤ (dv s).length ∧ ((dv s).drop k).all mx = (dv s).all mx})
  (fun x => match x.1 with | k => [(24, .d (.v (.int .i64 ((k : Nat) : Int))))]) [(0, _), (23, _)]
  (fun x => match x.1 with | k => []) [] [] 0 (fun x => match x.1 with | k => (dv s).length - k)
  [] ⟨0, ?_⟩ rfl ?_ ⟨rfl, rfl, rfl, rfl, trivial⟩ ?_ trivial rfl ?_
 · exact ⟨Nat.zero_le _, rfl⟩
 · repeat' first | exact trivial | refine ⟨rfl, ?_⟩
 · repeat' exact trivial
 rintro ⟨k, hk, hI⟩
 show W _ _ _ _ _ ⟨[(24, .d (.v (.int .i64 ((k : Nat) : Int)))), (0, _), (23, _)], [], [], 0⟩
 refine W.seq (W.region (pE rfl (WO.nil (qs (W.seq (bg (l := dv s) (k := k) rfl (by simp [Ex.aF, aK]) hk (fun b hx hd hlt => ?_) (fun he hd => ?_)))))))
 ·
  rw [hd, List.all_cons] at hI
  refine W.skip (qs (W.seq (W.block (W.seq (W.region ?_)))))
  iterate 2 refine pE rfl ?_
  refine WO.nil (qs (W.seq (W.region ?_)))
  iterate 2 refine pE rfl ?_
  refine pu (gW aa rfl rfl rfl rfl (Int.natCast_nonneg _) (lq (by assumption))) rfl ?_
  refine pE rfl (WO.nil (qs (W.seq ?_)))
  apply aI; (case hb => rfl)
  ·
   iterate 3 refine pE rfl ?_
   apply eF; (case hj => rfl); (case hl => rfl)
   ·
    intro g32
    iterate 2 refine ay rfl rfl rfl rfl ?_
    iterate 2 refine pE rfl ?_
    refine ah rfl rfl (pE rfl (ah rfl rfl (pE rfl (ah rfl rfl (pE rfl ?_)))))
    apply eF; (case hj => rfl); (case hl => rfl)
    ·
     intro g39
     iterate 2 refine ay rfl rfl rfl rfl ?_
     refine ah rfl rfl ?_
     iterate 3 refine pE rfl ?_
     refine ah rfl rfl (pE rfl (ah rfl rfl ?_))
     iterate 2 refine pE rfl ?_
     refine WO.nil (aA rfl rfl rfl)
    intro g39
    refine ah rfl rfl (pE rfl (ah rfl rfl (pE rfl (ah rfl rfl ?_))))
    iterate 3 refine pE rfl ?_
    apply eF; (case hj => rfl); (case hl => rfl)
    ·
     intro g44
     refine ah rfl rfl (pE rfl (ah rfl rfl ?_))
     iterate 2 refine pE rfl ?_
     refine WO.nil (aA rfl rfl rfl)
    intro g44
    iterate 2 refine ay rfl rfl rfl rfl ?_
    refine pE rfl (WO.nil (aA rfl rfl rfl))
   intro g32
   refine ah rfl rfl (pE rfl (ah rfl rfl ?_))
   iterate 3 refine pE rfl ?_
   apply eF; (case hj => rfl); (case hl => rfl)
   ·
    intro g36
    refine ah rfl rfl (pE rfl (ah rfl rfl (pE rfl (ah rfl rfl (pE rfl ?_)))))
    apply eF; (case hj => rfl); (case hl => rfl)
    ·
     intro g39
     iterate 2 refine ay rfl rfl rfl rfl ?_
     refine ah rfl rfl ?_
     iterate 3 refine pE rfl ?_
     refine ah rfl rfl (pE rfl (ah rfl rfl ?_))
     iterate 2 refine pE rfl ?_
     refine WO.nil (aA rfl rfl rfl)
    intro g39
    refine ah rfl rfl (pE rfl (ah rfl rfl (pE rfl (ah rfl rfl ?_))))
    iterate 3 refine pE rfl ?_
    apply eF; (case hj => rfl); (case hl => rfl)
    ·
     intro g44
     refine ah rfl rfl (pE rfl (ah rfl rfl ?_))
     iterate 2 refine pE rfl ?_
     refine WO.nil (aA rfl rfl rfl)
    intro g44
    iterate 2 refine ay rfl rfl rfl rfl ?_
    refine pE rfl (WO.nil (aA rfl rfl rfl))
   intro g36
   iterate 3 refine ay rfl rfl rfl rfl ?_
   iterate 2 refine gK rfl rfl rfl ?_
   refine ay rfl rfl rfl rfl ?_
   iterate 2 refine pE rfl ?_
   iterate 2 refine ay rfl rfl rfl rfl ?_
   refine pE rfl (WO.nil (aA rfl rfl rfl))
  refine qs (aq rfl (fun h47 => ?_) (fun h47 => ?_))
  ·
   refine W.seq (W.region (pE rfl (WO.nil (qs (W.ret (au (an (bw (au (an (QF.ar trivial rfl ?_)))))))))))
   simp only [norm, az]; simp [fR, ← hI, mx, lower]; grind
  refine W.skip (a0 (qs (W.region ?_)))
  iterate 2 refine pE rfl ?_
  refine WO.nil (W.aY [] ⟨k + 1, ?_⟩ ?_ rfl ?_ ⟨rfl, rfl, rfl, rfl, trivial⟩ ?_ trivial rfl)
  · exact ⟨hlt, by rw [← hI]; simp [mx, lower]; grind⟩
  · dsimp only; omega
  · repeat' first | exact trivial | refine ⟨aE (by assumption) (by assumption), ?_⟩
  repeat' exact trivial
 rw [hd] at hI
 refine W.exit (aN (aR (aO (qs (W.seq (W.region (pu (aG aa rfl rfl rfl rfl rfl rfl rfl rfl rfl) rfl ?_)))))))
 refine pE rfl (pu (ae rfl rfl rfl (dF words s) rfl) rfl ?_)
 iterate 2 refine pE rfl ?_
 refine WO.nil (qs (W.ret (QF.ar trivial rfl ?_)))
 simp only [norm, az, fR, ← hI]; generalize words.any (fun w => decide (s = w)) = z; clear hI hd hok hlen hk he; simp only [List.all_nil, lower]; generalize (dv s).headD 0 = b at *; grind
end Go.Proofs.Ytjenenllmjlimaa
namespace Go.Proofs.Ytjenenllmjlimaa
open Go.Ab Go.Tb
set_option maxRecDepth 10000
attribute [local irreducible] W WO Pu QS QB QL QF QV bO CH QE
theorem sj (v : aD) : aw Try.prog 104 [.ag v.c] (.d (.v (.int .i64 (ki v)))) 0 := by
 refine aw.a8 (n := 34) (ts := [2]) Try.func104 (by kernel_rfl) rfl Try.ntmps104 Try.results104 rfl rfl fun C hC hG => ?_
 refine W.seq (W.region (bM rfl rfl rfl (pE rfl (WO.nil (qs ?_)))))
 iterate 2 refine W.seq ?_
 refine W.region (pE rfl (pE rfl (pE rfl (pu (ae rfl rfl rfl (rz ..) rfl) rfl ?_))))
 refine pE rfl (WO.nil (qs (W.seq (W.region ?_))))
 iterate 2 refine pE rfl ?_
 refine WO.nil (qs (aq rfl (fun h11 => ?_) (fun h11 => ?_)))
 ·
  refine W.seq (W.region ?_)
  iterate 2 refine pE rfl ?_
  refine WO.nil (qs (W.ret (an (QF.ar trivial rfl ?_))))
  simp only [norm, az]; grind [ki]
 refine W.skip (qs ?_)
 iterate 2 refine W.seq ?_
 refine W.region (pE rfl (pE rfl ?_))
 iterate 2 refine pE rfl ?_
 refine WO.nil (qs (W.block (W.nr (t := 14) rfl (fun hok => ?_))))
 have hlen := lr hok
 refine W.aW (ι := {x : Nat // match x with | k => k ≤ (dv v.s).length ∧ ((dv v.s).drop k).any kW = (dv v.s).any kW})
  (fun x => match x.1 with | k => [(1, .ptr 0 0), (16, .d (.v (.int .i64 ((k : Nat) : Int))))]) [(15, _)]
  (fun x => match x.1 with | k => []) [(0, _)] [] 1 (fun x => match x.1 with | k => (dv v.s).length - k)
  [0] ⟨0, ?_⟩ rfl ?_ ⟨rfl, rfl, trivial⟩ ?_ ⟨rfl, rfl, trivial⟩ rfl ?_
 · exact ⟨Nat.zero_le _, rfl⟩
 · repeat' first | exact trivial | refine ⟨rfl, ?_⟩
 · repeat' exact trivial
 rintro ⟨k, hk, hI⟩
 show W _ _ _ _ _ ⟨[(1, .ptr 0 0), (16, .d (.v (.int .i64 ((k : Nat) : Int)))), (15, _)], [(0, _)], [], 1⟩
 refine W.seq (W.region (pE rfl (WO.nil (qs (W.seq (bg (l := dv v.s) (k := k) rfl (by simp [Ex.aF, aK]) hk (fun b hx hd hlt => ?_) (fun he hd => ?_)))))))
 ·
  rw [hd, List.any_cons] at hI
  refine W.skip (qs (W.seq (W.block (W.seq (W.region ?_)))))
  iterate 2 refine pE rfl ?_
  refine WO.nil (qs (W.seq (W.region (pE rfl (pE rfl (pE rfl (pu (gW aa rfl rfl rfl rfl (Int.natCast_nonneg _) (lq (by assumption))) rfl ?_)))))))
  refine pE rfl (WO.nil (qs (W.seq ?_)))
  apply aI; (case hb => rfl)
  ·
   iterate 3 refine pE rfl ?_
   apply aC; (case hj => rfl); (case hl => rfl)
   ·
    iterate 2 refine ay rfl rfl rfl rfl ?_
    iterate 2 refine pE rfl ?_
    iterate 2 refine ay rfl rfl rfl rfl ?_
    refine pE rfl (WO.nil (aA rfl rfl rfl))
   refine ah rfl rfl (pE rfl (ah rfl rfl ?_))
   iterate 3 refine pE rfl ?_
   apply aC; (case hj => rfl); (case hl => rfl)
   ·
    iterate 2 refine ay rfl rfl rfl rfl ?_
    refine pE rfl (WO.nil (aA rfl rfl rfl))
   refine ah rfl rfl (pE rfl (ah rfl rfl ?_))
   iterate 2 refine pE rfl ?_
   refine WO.nil (aA rfl rfl rfl)
  refine qs (aq rfl (fun h32 => ?_) (fun h32 => ?_))
  ·
   refine W.seq (W.region (pE rfl (WO.nil (qs (W.ret (au (an (bw (au (an (QF.ar trivial rfl ?_)))))))))))
   simp only [norm, az, ki, ← hI]; clear hI; simp only [kW]; grind
  refine W.skip (a0 (qs (W.region ?_)))
  iterate 2 refine pE rfl ?_
  refine WO.nil (W.aY [0] ⟨k + 1, ?_⟩ ?_ rfl ?_ ⟨rfl, rfl, trivial⟩ ?_ ⟨rfl, rfl, trivial⟩ rfl)
  · exact ⟨hlt, by rw [← hI]; simp only [kW]; grind⟩
  · dsimp only; omega
  · repeat' first | exact trivial | refine ⟨rfl, ?_⟩ | refine ⟨aE (by assumption) (by assumption), ?_⟩
  repeat' exact trivial
 rw [hd] at hI
 refine W.exit (aN (aR (aO (qs (W.seq (W.region (pE rfl (WO.nil (qs (W.ret (QF.ar trivial rfl ?_)))))))))))
 simp only [norm, az, ki, ← hI]; simp_all
end Go.Proofs.Ytjenenllmjlimaa
namespace Go.Proofs.Ytjenenllmjlimaa
open Go.Ab Go.Tb
set_option maxRecDepth 10000
attribute [local irreducible] W WO Pu QS QB QL QF QV bO CH QE
theorem tV : ∀ (e : Ex) (n : Int), 0 ≤ n → n ≤ 200 → aw Try.prog 92 [.ag e.c, .d (.v (.int .i64 n))] (.tup [.d (.v (.int .i64 (gn e n).1)), .d (.v (.int .i64 (gn e n).2))]) 0 := by
 refine Ex.ind fun e ih => ?_
 intro n h0 h1
 refine aw.a8 (n := 34) (ts := [4, 5]) Try.func92 (by kernel_rfl) rfl Try.ntmps92 Try.results92 rfl rfl fun C hC hG => ?_
 refine W.seq (W.region (bM rfl rfl rfl ?_))
 iterate 2 refine pE rfl ?_
 refine WO.nil (qs (W.seq (W.region (pE rfl (pu (bL (ev aa rfl) (wrap64 (by omega))) rfl ?_)))))
 refine pE rfl (WO.nil (qs (W.seq (W.region (pE rfl (WO.nil (qs ?_)))))))
 iterate 2 refine W.seq ?_
 refine W.region (pE rfl (pE rfl ?_))
 iterate 2 refine pE rfl ?_
 refine WO.nil (qs (W.block (W.len (t := 13) rfl rfl (fun hlen => ?_))))
 try simp only [List.length_map, Ex.aF] at hlen
 refine W.aW (ι := {x : Nat × Int × Int // match x with | (k, n', d) => k ≤ e.kids.length ∧ fE (e.kids.drop k) n' d = fE e.kids (n + 1) 0 ∧ 0 ≤ n' ∧ n' ≤ 201 ∧ 0 ≤ d ∧ d ≤ n'})
  (fun x => match x.1 with | (k, n', d) => [(1, .d (.v (.int .i64 (n')))), (6, .d (.v (.int .i64 (d)))), (15, .d (.v (.int .i64 ((k : Nat) : Int))))]) [(13, _), (14, _)]
  (fun x => match x.1 with | (k, n', d) => []) [] [] 0 (fun x => match x.1 with | (k, n', d) => e.kids.length - k)
  [] ⟨(0, n + 1, 0), ?_⟩ rfl ?_ ⟨rfl, rfl, rfl, rfl, trivial⟩ ?_ trivial rfl ?_
 · exact ⟨Nat.zero_le _, rfl, by omega, by omega, by omega, by omega⟩
 · repeat' first | exact trivial | refine ⟨rfl, ?_⟩
 · repeat' exact trivial
 rintro ⟨⟨k, n', d⟩, hk, hI, h2, h3, h4, h5⟩
 show W _ _ _ _ _ ⟨[(1, .d (.v (.int .i64 (n')))), (6, .d (.v (.int .i64 (d)))), (15, .d (.v (.int .i64 ((k : Nat) : Int)))), (13, _), (14, _)], [], [], 0⟩
 refine W.seq (W.region (pE rfl (WO.nil (qs (W.seq (bg (l := e.kids) (k := k) rfl (by simp [Ex.aF, aK]) hk (fun x hx hd hlt => ?_) (fun he hd => ?_)))))))
 ·
  rw [hd] at hI
  refine W.skip (qs (W.seq (W.block (W.seq (W.region (pu (indexAddr aa rfl rfl rfl rfl rfl rfl (Int.natCast_nonneg _) (Ex.rB hx) rfl) rfl ?_))))))
  refine pE rfl (a9 aa rfl rfl rfl (aQ aa rfl rfl rfl rfl rfl rfl rfl rfl (WO.nil (qs ?_))))
  iterate 2 refine W.seq ?_
  refine W.region ?_
  iterate 2 refine pE rfl ?_
  refine WO.nil (qs (aq rfl (fun h20 => ?_) (fun h20 => ?_)))
  ·
   have h20 : 200 < n' := by simpa using h20
   simp only [fE, h20, if_true] at hI
   refine W.exit (aN (xc rfl ?_))
   refine aN (aR (aO (qs (W.seq (W.region ?_)))))
   iterate 2 refine pE rfl ?_
   refine pu (bL (ev aa rfl) (wrap64 (by omega))) rfl ?_
   iterate 2 refine pE rfl ?_
   refine WO.nil (qs (W.ret (QF.ar trivial rfl ?_)))
   rw [vp, ← hI]; rfl
  have h20 : ¬ 200 < n' := by simpa using h20
  simp only [fE, h20, if_false] at hI
  have hm := om x n' h2 (by omega)
  refine W.skip (qs (W.seq (W.region (pE rfl (WO.nil (qs (W.seq (W.region (pE rfl (pE rfl (pu (ae rfl rfl rfl (ih x (List.mem_of_getElem? hx) _ h2 (by omega)) rfl) rfl ?_)))))))))))
  iterate 5 refine pE rfl ?_
  refine WO.nil (qs (W.region ?_))
  iterate 4 refine pE rfl ?_
  refine WO.nil (a0 (qs (W.region ?_)))
  iterate 2 refine pE rfl ?_
  refine WO.nil (W.aY [] ⟨(k + 1, (gn x n').1, if d < (gn x n').2 then (gn x n').2 else d), ?_⟩ ?_ rfl ?_ ⟨rfl, rfl, rfl, rfl, trivial⟩ ?_ trivial rfl)
  · refine ⟨hlt, hI, by omega, by omega, ?_, ?_⟩ <;> split <;> omega
  · dsimp only; omega
  · repeat' first | exact trivial | refine ⟨rfl, ?_⟩ | refine ⟨aE (by assumption) (by assumption), ?_⟩
  repeat' exact trivial
 rw [hd] at hI
 refine W.exit (aN (aR (aO (qs (W.seq (W.region ?_))))))
 iterate 2 refine pE rfl ?_
 refine pu (bL (ev aa rfl) (wrap64 (by omega))) rfl ?_
 iterate 2 refine pE rfl ?_
 refine WO.nil (qs (W.ret (QF.ar trivial rfl ?_)))
 rw [vp, ← hI]; rfl
end Go.Proofs.Ytjenenllmjlimaa
namespace Go.Proofs.Ytjenenllmjlimaa
open Go.Ab Go.Tb
set_option maxRecDepth 10000
attribute [local irreducible] W WO Pu QS QB QL QF QV bO CH QE
theorem wL (e : Ex) : aw Try.prog 102 [.ag e.c] (.d (.v (.int .i64 (bc e)))) 0 := by
 refine aw.a8 (n := 94) (ts := [2]) Try.func102 (by kernel_rfl) rfl Try.ntmps102 Try.results102 rfl rfl fun C hC hG => ?_
 have hkl := Ex.aF e
 refine W.seq (W.region (bM rfl rfl rfl (pE rfl (WO.nil (qs (W.seq (W.region ?_)))))))
 iterate 3 refine pE rfl ?_
 refine WO.nil (qs (W.seq (W.block (W.seq (W.region (pE rfl (pE rfl ?_)))))))
 iterate 2 refine pE rfl ?_
 refine WO.nil (qs (aq rfl (fun h6 => ?_) (fun h6 => ?_)))
 ·
  refine W.region ?_
  iterate 2 refine pE rfl ?_
  refine WO.nil (a0 (qs (W.seq (W.block ?_))))
  iterate 2 refine W.seq ?_
  refine W.region (pE rfl (pE rfl ?_))
  iterate 4 refine pE rfl ?_
  refine WO.nil (qs (aq rfl (fun h39 => ?_) (fun h39 => ?_)))
  ·
   refine W.skip (qs (W.cE rfl (W.seq (W.region (pE rfl (WO.nil (qs (W.ret (au (an (QF.ar trivial rfl ?_)))))))))))
   simp only [norm, az, bc, bF, zeroV] at *; grind
  refine W.seq ?_
  apply aI; (case hb => rfl)
  ·
   refine pE rfl (pE rfl ?_)
   iterate 2 refine pE rfl ?_
   apply aC; (case hj => rfl); (case hl => rfl)
   ·
    refine ah rfl rfl (pE rfl (ah rfl rfl ?_))
    iterate 3 refine pE rfl ?_
    refine WO.nil (aA rfl rfl rfl)
   iterate 2 refine ay rfl rfl rfl rfl ?_
   iterate 2 refine pE rfl ?_
   refine WO.nil (aA rfl rfl rfl)
  refine qs (aq rfl (fun h39 => ?_) (fun h39 => ?_))
  ·
   refine W.skip (qs (W.cE rfl (W.seq (W.region (pE rfl (WO.nil (qs (W.ret (au (an (QF.ar trivial rfl ?_)))))))))))
   simp only [norm, az, bc, bF, zeroV] at *; grind
  apply aI; (case hb => rfl)
  ·
   refine pE rfl (pE rfl (pu (build aa rfl rfl rfl rfl) rfl ?_))
   iterate 2 refine pE rfl ?_
   apply aC; (case hj => rfl); (case hl => rfl)
   ·
    refine ah rfl rfl (pE rfl (ah rfl rfl ?_))
    iterate 3 refine pE rfl ?_
    refine WO.nil (aA rfl rfl rfl)
   iterate 2 refine ay rfl rfl rfl rfl ?_
   iterate 2 refine pE rfl ?_
   refine WO.nil (aA rfl rfl rfl)
  refine qs (aq rfl (fun h39 => ?_) (fun h39 => ?_))
  ·
   refine W.seq (W.region (pE rfl (WO.nil (qs (W.ret (au (an (QF.ar trivial rfl ?_))))))))
   simp only [norm, az, bc, bF, zeroV] at *; grind
  refine W.seq (W.region ?_)
  iterate 2 refine pE rfl ?_
  refine WO.nil (qs (W.cE rfl (W.seq (W.region (pE rfl (pE rfl (pu (ae rfl rfl rfl (sj ..) rfl) rfl ?_)))))))
  refine pE rfl (WO.nil (qs (W.ret (au (an (QF.ar trivial rfl ?_))))))
  simp only [norm, az, bc, bF, zeroV] at *; grind
 refine W.seq (W.region (pE rfl (pE rfl ?_)))
 iterate 2 refine pE rfl ?_
 refine WO.nil (qs (aq rfl (fun h10 => ?_) (fun h10 => ?_)))
 ·
  refine W.region ?_
  iterate 2 refine pE rfl ?_
  refine WO.nil (a0 (qs (W.seq (W.block ?_))))
  iterate 2 refine W.seq ?_
  refine W.region (pE rfl (pE rfl ?_))
  iterate 4 refine pE rfl ?_
  refine WO.nil (qs (aq rfl (fun h39 => ?_) (fun h39 => ?_)))
  ·
   refine W.skip (qs (W.cE rfl (W.seq (W.region (pE rfl (WO.nil (qs (W.ret (au (an (QF.ar trivial rfl ?_)))))))))))
   simp only [norm, az, bc, bF, zeroV] at *; grind
  refine W.seq ?_
  apply aI; (case hb => rfl)
  ·
   refine pE rfl (pE rfl ?_)
   iterate 2 refine pE rfl ?_
   apply aC; (case hj => rfl); (case hl => rfl)
   ·
    refine ah rfl rfl (pE rfl (ah rfl rfl ?_))
    iterate 3 refine pE rfl ?_
    refine WO.nil (aA rfl rfl rfl)
   iterate 2 refine ay rfl rfl rfl rfl ?_
   iterate 2 refine pE rfl ?_
   refine WO.nil (aA rfl rfl rfl)
  refine qs (aq rfl (fun h39 => ?_) (fun h39 => ?_))
  ·
   refine W.skip (qs (W.cE rfl (W.seq (W.region (pE rfl (WO.nil (qs (W.ret (au (an (QF.ar trivial rfl ?_)))))))))))
   simp only [norm, az, bc, bF, zeroV] at *; grind
  apply aI; (case hb => rfl)
  ·
   refine pE rfl (pE rfl (pu (build aa rfl rfl rfl rfl) rfl ?_))
   iterate 2 refine pE rfl ?_
   apply aC; (case hj => rfl); (case hl => rfl)
   ·
    refine ah rfl rfl (pE rfl (ah rfl rfl ?_))
    iterate 3 refine pE rfl ?_
    refine WO.nil (aA rfl rfl rfl)
   iterate 2 refine ay rfl rfl rfl rfl ?_
   iterate 2 refine pE rfl ?_
   refine WO.nil (aA rfl rfl rfl)
  refine qs (aq rfl (fun h39 => ?_) (fun h39 => ?_))
  ·
   refine W.seq (W.region (pE rfl (WO.nil (qs (W.ret (au (an (QF.ar trivial rfl ?_))))))))
   simp only [norm, az, bc, bF, zeroV] at *; grind
  refine W.seq (W.region ?_)
  iterate 2 refine pE rfl ?_
  refine WO.nil (qs (W.qX rfl (W.seq ?_)))
  apply aI; (case hb => rfl)
  ·
   iterate 2 refine pE rfl ?_
   refine ah rfl rfl (pE rfl (ah rfl rfl (pE rfl (ah rfl rfl (pu (ae rfl rfl rfl (fq ..) rfl) rfl ?_)))))
   refine ah rfl rfl ?_
   iterate 3 refine pE rfl ?_
   refine WO.nil (aA rfl rfl rfl)
  refine qs (aq rfl (fun h65 => ?_) (fun h65 => ?_))
  ·
   refine W.seq (W.region (pE rfl (WO.nil (qs (W.ret (au (an (QF.ar trivial rfl ?_))))))))
   simp only [norm, az, bc, bF, zeroV] at *; grind
  refine W.seq ?_
  apply aI; (case hb => rfl)
  ·
   refine pE rfl (pE rfl ?_)
   iterate 2 refine pE rfl ?_
   apply aC; (case hj => rfl); (case hl => rfl)
   ·
    refine ah rfl rfl (pE rfl (ah rfl rfl (pE rfl (ah rfl rfl (pu (ae rfl rfl rfl (fT ..) rfl) rfl ?_)))))
    refine ah rfl rfl ?_
    iterate 3 refine pE rfl ?_
    refine WO.nil (aA rfl rfl rfl)
   iterate 4 refine ay rfl rfl rfl rfl ?_
   iterate 2 refine pE rfl ?_
   refine WO.nil (aA rfl rfl rfl)
  refine qs (aq rfl (fun h73 => ?_) (fun h73 => ?_))
  ·
   refine W.seq (W.region (pE rfl (WO.nil (qs (W.ret (au (an (QF.ar trivial rfl ?_))))))))
   simp only [norm, az, bc, bF, zeroV] at *; grind
  refine W.seq ?_
  apply aI; (case hb => rfl)
  ·
   refine pE rfl (pE rfl ?_)
   iterate 2 refine pE rfl ?_
   apply aC; (case hj => rfl); (case hl => rfl)
   ·
    refine ah rfl rfl (pE rfl (ah rfl rfl (pE rfl (ah rfl rfl (pu (ae rfl rfl rfl (fT ..) rfl) rfl ?_)))))
    refine ah rfl rfl (pE rfl (ah rfl rfl ?_))
    iterate 3 refine pE rfl ?_
    refine WO.nil (aA rfl rfl rfl)
   iterate 5 refine ay rfl rfl rfl rfl ?_
   iterate 2 refine pE rfl ?_
   refine WO.nil (aA rfl rfl rfl)
  refine qs (aq rfl (fun h83 => ?_) (fun h83 => ?_))
  ·
   refine W.seq (W.region (pE rfl (WO.nil (qs (W.ret (au (an (QF.ar trivial rfl ?_))))))))
   simp only [norm, az, bc, bF, zeroV] at *; grind
  refine W.skip (a0 (qs (W.seq (W.region (pE rfl (WO.nil (qs (W.ret (QF.ar trivial rfl ?_)))))))))
  simp only [norm, az, bc, bF, zeroV] at *; grind
 refine W.seq ?_
 apply aI; (case hb => rfl)
 ·
  refine pE rfl (pE rfl ?_)
  iterate 2 refine pE rfl ?_
  apply aC; (case hj => rfl); (case hl => rfl)
  ·
   iterate 3 refine ay rfl rfl rfl rfl ?_
   iterate 2 refine pE rfl ?_
   refine WO.nil (aA rfl rfl rfl)
  refine ah rfl rfl (pE rfl (ah rfl rfl (pE rfl (ah rfl rfl ?_))))
  iterate 3 refine pE rfl ?_
  refine WO.nil (aA rfl rfl rfl)
 refine qs (aq rfl (fun h14 => ?_) (fun h14 => ?_))
 ·
  refine W.region (pE rfl (WO.nil (a0 (qs (W.seq (W.block ?_))))))
  iterate 2 refine W.seq ?_
  refine W.region (pE rfl (pE rfl ?_))
  iterate 4 refine pE rfl ?_
  refine WO.nil (qs (aq rfl (fun h39 => ?_) (fun h39 => ?_)))
  ·
   refine W.skip (qs (W.cE rfl (W.seq (W.region (pE rfl (WO.nil (qs (W.ret (au (an (QF.ar trivial rfl ?_)))))))))))
   simp only [norm, az, bc, bF, zeroV] at *; grind
  refine W.seq ?_
  apply aI; (case hb => rfl)
  ·
   refine pE rfl (pE rfl ?_)
   iterate 2 refine pE rfl ?_
   apply aC; (case hj => rfl); (case hl => rfl)
   ·
    refine ah rfl rfl (pE rfl (ah rfl rfl ?_))
    iterate 3 refine pE rfl ?_
    refine WO.nil (aA rfl rfl rfl)
   iterate 2 refine ay rfl rfl rfl rfl ?_
   iterate 2 refine pE rfl ?_
   refine WO.nil (aA rfl rfl rfl)
  refine qs (aq rfl (fun h39 => ?_) (fun h39 => ?_))
  ·
   refine W.skip (qs (W.cE rfl (W.seq (W.region (pE rfl (WO.nil (qs (W.ret (au (an (QF.ar trivial rfl ?_)))))))))))
   simp only [norm, az, bc, bF, zeroV] at *; grind
  apply aI; (case hb => rfl)
  ·
   refine pE rfl (pE rfl (pu (build aa rfl rfl rfl rfl) rfl ?_))
   iterate 2 refine pE rfl ?_
   apply aC; (case hj => rfl); (case hl => rfl)
   ·
    refine ah rfl rfl (pE rfl (ah rfl rfl ?_))
    iterate 3 refine pE rfl ?_
    refine WO.nil (aA rfl rfl rfl)
   iterate 2 refine ay rfl rfl rfl rfl ?_
   iterate 2 refine pE rfl ?_
   refine WO.nil (aA rfl rfl rfl)
  refine qs (aq rfl (fun h39 => ?_) (fun h39 => ?_))
  ·
   refine W.seq (W.region (pE rfl (WO.nil (qs (W.ret (au (an (QF.ar trivial rfl ?_))))))))
   simp only [norm, az, bc, bF, zeroV] at *; grind
  refine W.seq (W.region ?_)
  iterate 2 refine pE rfl ?_
  refine WO.nil (qs (W.qX rfl (W.seq ?_)))
  apply aI; (case hb => rfl)
  ·
   iterate 2 refine pE rfl ?_
   iterate 4 refine ay rfl rfl rfl rfl ?_
   iterate 2 refine pE rfl ?_
   refine WO.nil (aA rfl rfl rfl)
  refine qs (aq rfl (fun h65 => ?_) (fun h65 => ?_))
  ·
   refine W.seq (W.region (pE rfl (WO.nil (qs (W.ret (au (an (QF.ar trivial rfl ?_))))))))
   simp only [norm, az, bc, bF, zeroV] at *; grind
  refine W.seq ?_
  apply aI; (case hb => rfl)
  ·
   refine pE rfl (pE rfl ?_)
   iterate 2 refine pE rfl ?_
   apply aC; (case hj => rfl); (case hl => rfl)
   ·
    refine ah rfl rfl (pE rfl (ah rfl rfl (pE rfl (ah rfl rfl (pu (ae rfl rfl rfl (fT ..) rfl) rfl ?_)))))
    refine ah rfl rfl ?_
    iterate 3 refine pE rfl ?_
    refine WO.nil (aA rfl rfl rfl)
   iterate 4 refine ay rfl rfl rfl rfl ?_
   iterate 2 refine pE rfl ?_
   refine WO.nil (aA rfl rfl rfl)
  refine qs (aq rfl (fun h73 => ?_) (fun h73 => ?_))
  ·
   refine W.seq (W.region (pE rfl (WO.nil (qs (W.ret (au (an (QF.ar trivial rfl ?_))))))))
   simp only [norm, az, bc, bF, zeroV] at *; grind
  refine W.seq ?_
  apply aI; (case hb => rfl)
  ·
   refine pE rfl (pE rfl ?_)
   iterate 2 refine pE rfl ?_
   apply aC; (case hj => rfl); (case hl => rfl)
   ·
    refine ah rfl rfl (pE rfl (ah rfl rfl (pE rfl (ah rfl rfl (pu (ae rfl rfl rfl (fT ..) rfl) rfl ?_)))))
    refine ah rfl rfl (pE rfl (ah rfl rfl ?_))
    iterate 3 refine pE rfl ?_
    refine WO.nil (aA rfl rfl rfl)
   iterate 5 refine ay rfl rfl rfl rfl ?_
   iterate 2 refine pE rfl ?_
   refine WO.nil (aA rfl rfl rfl)
  refine qs (aq rfl (fun h83 => ?_) (fun h83 => ?_))
  ·
   refine W.seq (W.region (pE rfl (WO.nil (qs (W.ret (au (an (QF.ar trivial rfl ?_))))))))
   simp only [norm, az, bc, bF, zeroV] at *; grind
  refine W.skip (a0 (qs (W.seq (W.region (pE rfl (WO.nil (qs (W.ret (QF.ar trivial rfl ?_)))))))))
  simp only [norm, az, bc, bF, zeroV] at *; grind
 refine W.seq (W.region (pE rfl (pE rfl ?_)))
 iterate 2 refine pE rfl ?_
 refine WO.nil (qs (aq rfl (fun h23 => ?_) (fun h23 => ?_)))
 ·
  refine W.region (pE rfl (pE rfl ?_))
  iterate 3 refine pE rfl ?_
  refine WO.nil (a0 (qs (W.seq (W.block ?_))))
  iterate 2 refine W.seq ?_
  refine W.region (pE rfl (pE rfl ?_))
  iterate 4 refine pE rfl ?_
  refine WO.nil (qs (aq rfl (fun h39 => ?_) (fun h39 => ?_)))
  ·
   refine W.skip (qs (W.cE rfl (W.seq (W.region (pE rfl (WO.nil (qs (W.ret (au (an (QF.ar trivial rfl ?_)))))))))))
   simp only [norm, az, bc, bF, zeroV] at *; grind
  refine W.seq ?_
  apply aI; (case hb => rfl)
  ·
   refine pE rfl (pE rfl ?_)
   iterate 2 refine pE rfl ?_
   apply aC; (case hj => rfl); (case hl => rfl)
   ·
    refine ah rfl rfl (pE rfl (ah rfl rfl ?_))
    iterate 3 refine pE rfl ?_
    refine WO.nil (aA rfl rfl rfl)
   iterate 2 refine ay rfl rfl rfl rfl ?_
   iterate 2 refine pE rfl ?_
   refine WO.nil (aA rfl rfl rfl)
  refine qs (aq rfl (fun h39 => ?_) (fun h39 => ?_))
  ·
   refine W.skip (qs (W.cE rfl (W.seq (W.region (pE rfl (WO.nil (qs (W.ret (au (an (QF.ar trivial rfl ?_)))))))))))
   simp only [norm, az, bc, bF, zeroV] at *; grind
  apply aI; (case hb => rfl)
  ·
   refine pE rfl (pE rfl (pu (build aa rfl rfl rfl rfl) rfl ?_))
   iterate 2 refine pE rfl ?_
   apply aC; (case hj => rfl); (case hl => rfl)
   ·
    refine ah rfl rfl (pE rfl (ah rfl rfl ?_))
    iterate 3 refine pE rfl ?_
    refine WO.nil (aA rfl rfl rfl)
   iterate 2 refine ay rfl rfl rfl rfl ?_
   iterate 2 refine pE rfl ?_
   refine WO.nil (aA rfl rfl rfl)
  refine qs (aq rfl (fun h39 => ?_) (fun h39 => ?_))
  ·
   refine W.seq (W.region (pE rfl (WO.nil (qs (W.ret (au (an (QF.ar trivial rfl ?_))))))))
   simp only [norm, az, bc, bF, zeroV] at *; grind
  refine W.seq (W.region ?_)
  iterate 2 refine pE rfl ?_
  refine WO.nil (qs (W.qX rfl (W.seq ?_)))
  apply aI; (case hb => rfl)
  ·
   iterate 2 refine pE rfl ?_
   refine ah rfl rfl (pE rfl (ah rfl rfl (pE rfl (ah rfl rfl (pu (ae rfl rfl rfl (fq ..) rfl) rfl ?_)))))
   refine ah rfl rfl ?_
   iterate 3 refine pE rfl ?_
   refine WO.nil (aA rfl rfl rfl)
  refine qs (aq rfl (fun h65 => ?_) (fun h65 => ?_))
  ·
   refine W.seq (W.region (pE rfl (WO.nil (qs (W.ret (au (an (QF.ar trivial rfl ?_))))))))
   simp only [norm, az, bc, bF, zeroV] at *; grind
  refine W.seq ?_
  apply aI; (case hb => rfl)
  ·
   refine pE rfl (pE rfl ?_)
   iterate 2 refine pE rfl ?_
   apply aC; (case hj => rfl); (case hl => rfl)
   ·
    refine ah rfl rfl (pE rfl (ah rfl rfl (pE rfl (ah rfl rfl (pu (ae rfl rfl rfl (fT ..) rfl) rfl ?_)))))
    refine ah rfl rfl ?_
    iterate 3 refine pE rfl ?_
    refine WO.nil (aA rfl rfl rfl)
   iterate 4 refine ay rfl rfl rfl rfl ?_
   iterate 2 refine pE rfl ?_
   refine WO.nil (aA rfl rfl rfl)
  refine qs (aq rfl (fun h73 => ?_) (fun h73 => ?_))
  ·
   refine W.seq (W.region (pE rfl (WO.nil (qs (W.ret (au (an (QF.ar trivial rfl ?_))))))))
   simp only [norm, az, bc, bF, zeroV] at *; grind
  refine W.seq ?_
  apply aI; (case hb => rfl)
  ·
   refine pE rfl (pE rfl ?_)
   iterate 2 refine pE rfl ?_
   apply aC; (case hj => rfl); (case hl => rfl)
   ·
    refine ah rfl rfl (pE rfl (ah rfl rfl (pE rfl (ah rfl rfl (pu (ae rfl rfl rfl (fT ..) rfl) rfl ?_)))))
    refine ah rfl rfl (pE rfl (ah rfl rfl ?_))
    iterate 3 refine pE rfl ?_
    refine WO.nil (aA rfl rfl rfl)
   iterate 5 refine ay rfl rfl rfl rfl ?_
   iterate 2 refine pE rfl ?_
   refine WO.nil (aA rfl rfl rfl)
  refine qs (aq rfl (fun h83 => ?_) (fun h83 => ?_))
  ·
   refine W.seq (W.region (pE rfl (WO.nil (qs (W.ret (au (an (QF.ar trivial rfl ?_))))))))
   simp only [norm, az, bc, bF, zeroV] at *; grind
  refine W.skip (a0 (qs (W.seq (W.region (pE rfl (WO.nil (qs (W.ret (QF.ar trivial rfl ?_)))))))))
  simp only [norm, az, bc, bF, zeroV] at *; grind
 refine W.seq ?_
 apply aI; (case hb => rfl)
 ·
  refine pE rfl (pE rfl ?_)
  iterate 2 refine pE rfl ?_
  apply aC; (case hj => rfl); (case hl => rfl)
  ·
   iterate 3 refine ay rfl rfl rfl rfl ?_
   iterate 2 refine pE rfl ?_
   refine WO.nil (aA rfl rfl rfl)
  refine ah rfl rfl (pE rfl (ah rfl rfl (pE rfl (ah rfl rfl ?_))))
  iterate 3 refine pE rfl ?_
  refine WO.nil (aA rfl rfl rfl)
 refine qs (aq rfl (fun h30 => ?_) (fun h30 => ?_))
 ·
  refine W.seq (W.region (pE rfl (WO.nil (qs (W.ret (au (an (QF.ar trivial rfl ?_))))))))
  simp only [norm, az, bc, bF, zeroV] at *; grind
 refine W.skip (a0 (qs (W.seq (W.block ?_))))
 iterate 2 refine W.seq ?_
 refine W.region (pE rfl (pE rfl ?_))
 iterate 4 refine pE rfl ?_
 refine WO.nil (qs (aq rfl (fun h39 => ?_) (fun h39 => ?_)))
 ·
  refine W.skip (qs (W.cE rfl (W.seq (W.region (pE rfl (WO.nil (qs (W.ret (au (an (QF.ar trivial rfl ?_)))))))))))
  simp only [norm, az, bc, bF, zeroV] at *; grind
 refine W.seq ?_
 apply aI; (case hb => rfl)
 ·
  refine pE rfl (pE rfl ?_)
  iterate 2 refine pE rfl ?_
  apply aC; (case hj => rfl); (case hl => rfl)
  ·
   refine ah rfl rfl (pE rfl (ah rfl rfl ?_))
   iterate 3 refine pE rfl ?_
   refine WO.nil (aA rfl rfl rfl)
  iterate 2 refine ay rfl rfl rfl rfl ?_
  iterate 2 refine pE rfl ?_
  refine WO.nil (aA rfl rfl rfl)
 refine qs (aq rfl (fun h39 => ?_) (fun h39 => ?_))
 ·
  refine W.skip (qs (W.cE rfl (W.seq (W.region (pE rfl (WO.nil (qs (W.ret (au (an (QF.ar trivial rfl ?_)))))))))))
  simp only [norm, az, bc, bF, zeroV] at *; grind
 apply aI; (case hb => rfl)
 ·
  refine pE rfl (pE rfl (pu (build aa rfl rfl rfl rfl) rfl ?_))
  iterate 2 refine pE rfl ?_
  apply aC; (case hj => rfl); (case hl => rfl)
  ·
   refine ah rfl rfl (pE rfl (ah rfl rfl ?_))
   iterate 3 refine pE rfl ?_
   refine WO.nil (aA rfl rfl rfl)
  iterate 2 refine ay rfl rfl rfl rfl ?_
  iterate 2 refine pE rfl ?_
  refine WO.nil (aA rfl rfl rfl)
 refine qs (aq rfl (fun h39 => ?_) (fun h39 => ?_))
 ·
  refine W.seq (W.region (pE rfl (WO.nil (qs (W.ret (au (an (QF.ar trivial rfl ?_))))))))
  simp only [norm, az, bc, bF, zeroV] at *; grind
 refine W.seq (W.region ?_)
 iterate 2 refine pE rfl ?_
 refine WO.nil (qs (W.qX rfl (W.seq ?_)))
 apply aI; (case hb => rfl)
 ·
  iterate 2 refine pE rfl ?_
  iterate 4 refine ay rfl rfl rfl rfl ?_
  iterate 2 refine pE rfl ?_
  refine WO.nil (aA rfl rfl rfl)
 refine qs (aq rfl (fun h65 => ?_) (fun h65 => ?_))
 ·
  refine W.seq (W.region (pE rfl (WO.nil (qs (W.ret (au (an (QF.ar trivial rfl ?_))))))))
  simp only [norm, az, bc, bF, zeroV] at *; grind
 refine W.seq ?_
 apply aI; (case hb => rfl)
 ·
  refine pE rfl (pE rfl ?_)
  iterate 2 refine pE rfl ?_
  apply aC; (case hj => rfl); (case hl => rfl)
  ·
   refine ah rfl rfl (pE rfl (ah rfl rfl (pE rfl (ah rfl rfl (pu (ae rfl rfl rfl (fT ..) rfl) rfl ?_)))))
   refine ah rfl rfl ?_
   iterate 3 refine pE rfl ?_
   refine WO.nil (aA rfl rfl rfl)
  iterate 4 refine ay rfl rfl rfl rfl ?_
  iterate 2 refine pE rfl ?_
  refine WO.nil (aA rfl rfl rfl)
 refine qs (aq rfl (fun h73 => ?_) (fun h73 => ?_))
 ·
  refine W.seq (W.region (pE rfl (WO.nil (qs (W.ret (au (an (QF.ar trivial rfl ?_))))))))
  simp only [norm, az, bc, bF, zeroV] at *; grind
 refine W.seq ?_
 apply aI; (case hb => rfl)
 ·
  refine pE rfl (pE rfl ?_)
  iterate 2 refine pE rfl ?_
  apply aC; (case hj => rfl); (case hl => rfl)
  ·
   refine ah rfl rfl (pE rfl (ah rfl rfl (pE rfl (ah rfl rfl (pu (ae rfl rfl rfl (fT ..) rfl) rfl ?_)))))
   refine ah rfl rfl (pE rfl (ah rfl rfl ?_))
   iterate 3 refine pE rfl ?_
   refine WO.nil (aA rfl rfl rfl)
  iterate 5 refine ay rfl rfl rfl rfl ?_
  iterate 2 refine pE rfl ?_
  refine WO.nil (aA rfl rfl rfl)
 refine qs (aq rfl (fun h83 => ?_) (fun h83 => ?_))
 ·
  refine W.seq (W.region (pE rfl (WO.nil (qs (W.ret (au (an (QF.ar trivial rfl ?_))))))))
  simp only [norm, az, bc, bF, zeroV] at *; grind
 refine W.skip (a0 (qs (W.seq (W.region (pE rfl (WO.nil (qs (W.ret (QF.ar trivial rfl ?_)))))))))
 simp only [norm, az, bc, bF, zeroV] at *; grind
theorem v9 : ∀ (e : Ex), aw Try.prog 93 [.ag e.c] (.d (.v (.int .i64 (db e)))) 0 := by
 refine Ex.ind fun e ih => ?_
 have hq := kR e
 refine aw.a8 (n := 25) (ts := [2]) Try.func93 (by kernel_rfl) rfl Try.ntmps93 Try.results93 rfl rfl fun C hC hG => ?_
 refine W.seq (W.region (bM rfl rfl rfl (pE rfl (WO.nil (qs ?_)))))
 iterate 2 refine W.seq ?_
 refine W.region (pE rfl (pu (ae rfl rfl rfl (wL ..) rfl) rfl ?_))
 refine pE rfl (WO.nil (qs (W.seq (W.region ?_))))
 iterate 2 refine pE rfl ?_
 refine WO.nil (qs (aq rfl (fun h10 => ?_) (fun h10 => ?_)))
 ·
  rw [if_pos (by simpa using h10)] at hq
  refine W.seq (W.region ?_)
  iterate 2 refine pE rfl ?_
  refine WO.nil (qs (W.ret (an (QF.ar trivial rfl ?_))))
  rw [hq]; rfl
 rw [if_neg (by simpa using h10)] at hq
 refine W.skip (qs ?_)
 iterate 2 refine W.seq ?_
 refine W.region (pE rfl (pE rfl ?_))
 iterate 2 refine pE rfl ?_
 refine WO.nil (qs (W.block (W.len (t := 13) rfl rfl (fun hlen => ?_))))
 try simp only [List.length_map, Ex.aF] at hlen
 refine W.aW (ι := {x : Nat // match x with | k => k ≤ e.kids.length ∧ eE (e.kids.drop k) = eE e.kids})
  (fun x => match x.1 with | k => [(15, .d (.v (.int .i64 ((k : Nat) : Int))))]) [(13, _), (14, _)]
  (fun x => match x.1 with | k => []) [] [] 0 (fun x => match x.1 with | k => e.kids.length - k)
  [] ⟨0, ?_⟩ rfl ?_ ⟨rfl, rfl, rfl, rfl, trivial⟩ ?_ trivial rfl ?_
 · exact ⟨Nat.zero_le _, rfl⟩
 · repeat' first | exact trivial | refine ⟨rfl, ?_⟩
 · repeat' exact trivial
 rintro ⟨k, hk, hI⟩
 show W _ _ _ _ _ ⟨[(15, .d (.v (.int .i64 ((k : Nat) : Int)))), (13, _), (14, _)], [], [], 0⟩
 refine W.seq (W.region (pE rfl (WO.nil (qs (W.seq (bg (l := e.kids) (k := k) rfl (by simp [Ex.aF, aK]) hk (fun x hx hd hlt => ?_) (fun he hd => ?_)))))))
 ·
  rw [hd] at hI
  simp only [eE] at hI
  refine W.skip (qs (W.seq (W.block (W.seq (W.region (pu (indexAddr aa rfl rfl rfl rfl rfl rfl (Int.natCast_nonneg _) (Ex.rB hx) rfl) rfl ?_))))))
  refine pE rfl (a9 aa rfl rfl rfl (aQ aa rfl rfl rfl rfl rfl rfl rfl rfl (WO.nil (qs (W.seq (W.region (pE rfl (pu (ae rfl rfl rfl (ih x (List.mem_of_getElem? hx)) rfl) rfl ?_))))))))
  refine pE rfl (WO.nil (qs (W.seq (W.region ?_))))
  iterate 2 refine pE rfl ?_
  refine WO.nil (qs (aq rfl (fun h22 => ?_) (fun h22 => ?_)))
  ·
   rw [if_pos (by simpa using h22)] at hI
   refine W.seq (W.region ?_)
   iterate 2 refine pE rfl ?_
   refine WO.nil (qs (W.ret (au (an (bw (au (an (QF.ar trivial rfl ?_))))))))
   rw [hq, ← hI]; rfl
  rw [if_neg (by simpa using h22)] at hI
  refine W.skip (a0 (qs (W.region ?_)))
  iterate 2 refine pE rfl ?_
  refine WO.nil (W.aY [] ⟨k + 1, ?_⟩ ?_ rfl ?_ ⟨rfl, rfl, rfl, rfl, trivial⟩ ?_ trivial rfl)
  · exact ⟨hlt, hI⟩
  · dsimp only; omega
  · repeat' first | exact trivial | refine ⟨aE (by assumption) (by assumption), ?_⟩
  repeat' exact trivial
 rw [hd] at hI
 simp only [eE] at hI
 refine W.exit (aN (aR (aO (qs (W.seq (W.region (pE rfl (WO.nil (qs (W.ret (QF.ar trivial rfl ?_)))))))))))
 rw [hq, ← hI]; rfl
theorem sH (e : Ex) : aw Try.prog 70 [.ag e.c] (.d (.v (.int .i64 (fZ e)))) 0 := by
 have hm := om e 0 (by omega) (by omega)
 refine aw.a8 (n := 18) (ts := [2]) Try.func70 (by kernel_rfl) rfl Try.ntmps70 Try.results70 rfl rfl fun C hC hG => ?_
 refine W.seq (W.region (bM rfl rfl rfl (pE rfl (WO.nil (qs (W.seq (W.region (pE rfl (pu (ae rfl rfl rfl (tV e 0 (by omega) (by omega)) rfl) rfl ?_)))))))))
 iterate 5 refine pE rfl ?_
 refine WO.nil (qs (W.seq (W.block (W.seq (W.region ?_)))))
 iterate 3 refine pE rfl ?_
 refine WO.nil (qs (aq rfl (fun h10 => ?_) (fun h10 => ?_)))
 ·
  refine W.seq (W.region (pE rfl (WO.nil (qs (W.ret (au (an (QF.ar trivial rfl ?_))))))))
  simp only [norm, az, fZ] at *; grind
 refine W.seq (W.region ?_)
 iterate 3 refine pE rfl ?_
 refine WO.nil (qs (aq rfl (fun h13 => ?_) (fun h13 => ?_)))
 ·
  refine W.seq (W.region (pE rfl (WO.nil (qs (W.ret (au (an (QF.ar trivial rfl ?_))))))))
  simp only [norm, az, fZ] at *; grind
 refine W.skip (a0 (qs (W.seq (W.region (pE rfl (pu (ae rfl rfl rfl (v9 ..) rfl) rfl ?_))))))
 refine pE rfl (WO.nil (qs (W.ret (QF.ar trivial rfl ?_))))
 simp only [norm, az, fZ] at *; grind
end Go.Proofs.Ytjenenllmjlimaa
namespace Go.Proofs.Ytjenenllmjlimaa
open Go.Ab Go.Tb
set_option maxRecDepth 10000
attribute [local irreducible] W WO Pu QS QB QL QF QV bO CH QE
theorem wI (s : ByteArray) (ks : List Int) (h : (ks.length : Int) = arity s) (h0 : arity s ≠ 0) : aw Try.prog 78 [.d (.v (.string s)), .d (.sl (ks.map ic))]
  (.tup [.d (.v (.int .i64 (cD (gf s (ks.getD 0 0) (ks.getD 1 0)).2 (gf s (ks.getD 0 0) (ks.getD 1 0)).1).1)), .d (.v (.int .i64 (cD (gf s (ks.getD 0 0) (ks.getD 1 0)).2 (gf s (ks.getD 0 0) (ks.getD 1 0)).1).2))]) 0 := by
 refine aw.a8 (n := 45) (ts := [4, 5]) Try.func78 (by kernel_rfl) rfl Try.ntmps78 Try.results78 rfl rfl fun C hC hG => ?_
 refine W.seq (W.region ?_)
 iterate 2 refine pE rfl ?_
 refine WO.nil (qs ?_)
 iterate 2 refine W.seq ?_
 refine W.region (pE rfl (WO.nil (qs (W.block ?_))))
 iterate 2 refine W.seq ?_
 refine W.region ?_
 iterate 2 refine pE rfl ?_
 refine WO.nil (qs (aq rfl (fun h7 => ?_) (fun h7 => ?_)))
 ·
  have hs : s = gU ∨ s = gN := by first | exact .inl (of_decide_eq_true h7) | exact .inr (of_decide_eq_true h7)
  have hc := ql hs
  have ha : arity s = 2 := by rcases hs with rfl | rfl <;> decide
  obtain ⟨a, b, rfl⟩ := bT (l := ks) (by omega)
  refine W.skip (qs (W.cE rfl (W.seq (W.bE aa (by kernel_rfl) ?_))))
  refine ao (ev aa rfl) rfl ?_
  refine ao (ae rfl rfl rfl (eo ..) rfl) rfl ?_
  refine ao (ev aa rfl) rfl ?_
  refine lA rfl rfl (fun _ => ?_) (fun _ => ?_)
  ·
   iterate 2 refine bt rfl rfl rfl rfl ?_
   iterate 2 refine ao (ev aa rfl) rfl ?_
   refine ao (indexAddr aa rfl rfl rfl rfl rfl rfl (Int.le_refl _) rfl rfl) rfl ?_
   refine ao (ev aa rfl) rfl ?_
   refine ao (ev aa rfl) rfl ?_
   refine ao (indexAddr aa rfl rfl rfl rfl rfl rfl (by decide) rfl rfl) rfl ?_
   refine ao (ev aa rfl) rfl ?_
   refine ao (ev aa rfl) rfl ?_
   refine ao (ae rfl rfl rfl (cL ..) rfl) rfl ?_
   iterate 4 refine ao (ev aa rfl) rfl ?_
   refine CH.nil ?_
   refine qs (W.ret (au (an (QF.ar trivial rfl ?_))))
   simp only [norm, cb, az, hc, cD, both] at *; simp_all <;> grind
  refine aL rfl rfl (ev aa rfl) rfl ?_
  refine aL rfl rfl (ae rfl rfl rfl (eo ..) rfl) rfl ?_
  iterate 2 refine ao (ev aa rfl) rfl ?_
  refine ao (indexAddr aa rfl rfl rfl rfl rfl rfl (Int.le_refl _) rfl rfl) rfl ?_
  refine ao (ev aa rfl) rfl ?_
  refine ao (ev aa rfl) rfl ?_
  refine ao (indexAddr aa rfl rfl rfl rfl rfl rfl (by decide) rfl rfl) rfl ?_
  refine ao (ev aa rfl) rfl ?_
  refine ao (ev aa rfl) rfl ?_
  refine ao (ae rfl rfl rfl (cL ..) rfl) rfl ?_
  iterate 4 refine ao (ev aa rfl) rfl ?_
  refine CH.nil ?_
  refine qs (W.ret (au (an (QF.ar trivial rfl ?_))))
  simp only [norm, cb, az, hc, cD, both] at *; simp_all <;> grind
 have h7a := h7
 refine W.region ?_
 iterate 2 refine pE rfl ?_
 refine WO.nil (qs (aq rfl (fun h7 => ?_) (fun h7 => ?_)))
 ·
  have hs : s = gU ∨ s = gN := by first | exact .inl (of_decide_eq_true h7) | exact .inr (of_decide_eq_true h7)
  have hc := ql hs
  have ha : arity s = 2 := by rcases hs with rfl | rfl <;> decide
  obtain ⟨a, b, rfl⟩ := bT (l := ks) (by omega)
  refine W.seq (W.bE aa (by kernel_rfl) ?_)
  refine ao (ev aa rfl) rfl ?_
  refine ao (ae rfl rfl rfl (eo ..) rfl) rfl ?_
  refine ao (ev aa rfl) rfl ?_
  refine lA rfl rfl (fun _ => ?_) (fun _ => ?_)
  ·
   iterate 2 refine bt rfl rfl rfl rfl ?_
   iterate 2 refine ao (ev aa rfl) rfl ?_
   refine ao (indexAddr aa rfl rfl rfl rfl rfl rfl (Int.le_refl _) rfl rfl) rfl ?_
   refine ao (ev aa rfl) rfl ?_
   refine ao (ev aa rfl) rfl ?_
   refine ao (indexAddr aa rfl rfl rfl rfl rfl rfl (by decide) rfl rfl) rfl ?_
   refine ao (ev aa rfl) rfl ?_
   refine ao (ev aa rfl) rfl ?_
   refine ao (ae rfl rfl rfl (cL ..) rfl) rfl ?_
   iterate 4 refine ao (ev aa rfl) rfl ?_
   refine CH.nil ?_
   refine qs (W.ret (au (an (QF.ar trivial rfl ?_))))
   simp only [norm, cb, az, hc, cD, both] at *; simp_all <;> grind
  refine aL rfl rfl (ev aa rfl) rfl ?_
  refine aL rfl rfl (ae rfl rfl rfl (eo ..) rfl) rfl ?_
  iterate 2 refine ao (ev aa rfl) rfl ?_
  refine ao (indexAddr aa rfl rfl rfl rfl rfl rfl (Int.le_refl _) rfl rfl) rfl ?_
  refine ao (ev aa rfl) rfl ?_
  refine ao (ev aa rfl) rfl ?_
  refine ao (indexAddr aa rfl rfl rfl rfl rfl rfl (by decide) rfl rfl) rfl ?_
  refine ao (ev aa rfl) rfl ?_
  refine ao (ev aa rfl) rfl ?_
  refine ao (ae rfl rfl rfl (cL ..) rfl) rfl ?_
  iterate 4 refine ao (ev aa rfl) rfl ?_
  refine CH.nil ?_
  refine qs (W.ret (au (an (QF.ar trivial rfl ?_))))
  simp only [norm, cb, az, hc, cD, both] at *; simp_all <;> grind
 (have h7b := h7a; skip)
 refine W.seq (W.region ?_)
 iterate 2 refine pE rfl ?_
 refine WO.nil (qs (aq rfl (fun h26 => ?_) (fun h26 => ?_)))
 ·
  have hs : s = gw := of_decide_eq_true h26
  have hc : ∀ a b, gf s a b = (2, fits a 2) := fun a b => by simp [gf, hs]
  have ha := va (.inl hs)
  obtain ⟨a, rfl⟩ := tm (l := ks) (by omega)
  refine W.seq (W.region (pE rfl (pu (ae rfl rfl rfl (eo ..) rfl) rfl ?_)))
  refine pu (ae rfl rfl rfl (cL ..) rfl) rfl ?_
  iterate 4 refine pE rfl ?_
  refine WO.nil (qs (W.ret (au (an (QF.ar trivial rfl ?_)))))
  simp only [norm, cb, az, hc, cD, both] at *; simp_all <;> grind
 refine W.seq (W.region ?_)
 iterate 2 refine pE rfl ?_
 refine WO.nil (qs (aq rfl (fun h33 => ?_) (fun h33 => ?_)))
 ·
  have hs : s = gr := of_decide_eq_true h33
  have hc : ∀ a b, gf s a b = (2, fits a 3) := fun a b => by simp [gf, hs, gr, gw]
  have ha := va (.inr hs)
  obtain ⟨a, rfl⟩ := tm (l := ks) (by omega)
  refine W.seq (W.region (pE rfl (pu (ae rfl rfl rfl (eo ..) rfl) rfl ?_)))
  refine pu (ae rfl rfl rfl (cL ..) rfl) rfl ?_
  iterate 4 refine pE rfl ?_
  refine WO.nil (qs (W.ret (au (an (QF.ar trivial rfl ?_)))))
  simp only [norm, cb, az, hc, cD, both] at *; simp_all <;> grind
 have hs1 : s ≠ gw := of_decide_eq_false h26
 have hs2 : s ≠ gr := of_decide_eq_false h33
 have hc := vm h0 (of_decide_eq_false h7a) (of_decide_eq_false h7) hs1 hs2
 have ha := xJ h0 hs1 hs2
 obtain ⟨a, b, rfl⟩ := bT (l := ks) (by omega)
 refine W.skip (a0 (qs (W.seq (W.region (pE rfl (pu (ae rfl rfl rfl (eo ..) rfl) rfl ?_))))))
 refine pu (ae rfl rfl rfl (cL ..) rfl) rfl ?_
 iterate 4 refine pE rfl ?_
 refine WO.nil (qs (W.ret (QF.ar trivial rfl ?_)))
 simp only [norm, cb, az, hc, cD, both] at *; simp_all <;> grind
end Go.Proofs.Ytjenenllmjlimaa
namespace Go.Proofs.Ytjenenllmjlimaa
open Go.Ab Go.Tb
set_option maxRecDepth 10000
attribute [local irreducible] W WO Pu QS QB QL QF QV bO CH QE
theorem rJ (ab : List Col) : ∀ (e : Ex), db e = 0 → aw Try.prog 53 [.d (.sl (ab.map Col.c)), .ag e.c] (.tup [.d (.v (.int .i64 (eX ab e).1)), .d (.v (.int .i64 (eX ab e).2))]) 0 := by
 refine Ex.ind fun e ih => ?_
 intro hv
 have hkv := uj (ui hv)
 have hq := xE ab e
 refine aw.a8 (n := 109) (ts := [4, 5]) Try.func53 (by kernel_rfl) rfl Try.ntmps53 Try.results53 rfl rfl fun C hC hG => ?_
 refine W.seq (W.region (bM rfl rfl rfl ?_))
 iterate 2 refine pE rfl ?_
 refine WO.nil (qs (W.seq (W.region (pE rfl (WO.nil (qs ?_))))))
 iterate 2 refine W.seq ?_
 refine W.region (pE rfl (pE rfl ?_))
 iterate 2 refine pE rfl ?_
 refine WO.nil (qs (W.block (aU (d := 6) rfl rfl ?_)))
 refine W.len (t := 13) rfl rfl (fun hlen => ?_)
 try simp only [List.length_map, Ex.aF] at hlen
 refine W.aW (ι := {x : Nat × List Int // match x with | (k, ks) => k ≤ e.kids.length ∧ fL ab (e.kids.drop k) ks = fL ab e.kids [] ∧ ks.length = k})
  (fun x => match x.1 with | (k, ks) => [(3, .ptr 0 0), (6, .own 1 (ks.map ic)), (15, .d (.v (.int .i64 ((k : Nat) : Int))))]) [(0, _), (13, _), (14, _)]
  (fun x => match x.1 with | (k, ks) => []) [(0, _)] [1] 2 (fun x => match x.1 with | (k, ks) => e.kids.length - k)
  [0, 1] ⟨(0, []), ?_⟩ rfl ?_ ⟨rfl, rfl, rfl, rfl, rfl, rfl, trivial⟩ ?_ ⟨rfl, rfl, trivial⟩ rfl ?_
 · exact ⟨Nat.zero_le _, rfl, rfl⟩
 · repeat' first | exact trivial | refine ⟨rfl, ?_⟩
 · repeat' exact trivial
 rintro ⟨⟨k, ks⟩, hk, hI, h2⟩
 show W _ _ _ _ _ ⟨[(3, .ptr 0 0), (6, .own 1 (ks.map ic)), (15, .d (.v (.int .i64 ((k : Nat) : Int)))), (0, _), (13, _), (14, _)], [(0, _)], [1], 2⟩
 refine W.seq (W.region (pE rfl (WO.nil (qs (W.seq (bg (l := e.kids) (k := k) rfl (by simp [Ex.aF, aK]) hk (fun x hx hd hlt => ?_) (fun he hd => ?_)))))))
 ·
  rw [hd] at hI
  simp only [fL] at hI
  have hmem := List.mem_of_getElem? hx
  have hne : e.kids ≠ [] := by rintro h; rw [h] at hmem; simp at hmem
  refine W.skip (qs (W.seq (W.block (W.seq (W.region (pu (indexAddr aa rfl rfl rfl rfl rfl rfl (Int.natCast_nonneg _) (Ex.rB hx) rfl) rfl ?_))))))
  refine pE rfl (a9 aa rfl rfl rfl (aQ aa rfl rfl rfl rfl rfl rfl rfl rfl (WO.nil (qs (W.seq (W.region (pE rfl (pE rfl (pu (ae rfl rfl rfl (ih x hmem (vg hv hmem)) rfl) rfl ?_)))))))))
  iterate 5 refine pE rfl ?_
  refine WO.nil (qs ?_)
  iterate 2 refine W.seq ?_
  refine W.region ?_
  iterate 2 refine pE rfl ?_
  refine WO.nil (qs (aq rfl (fun h26 => ?_) (fun h26 => ?_)))
  ·
   rw [if_pos (by simpa using h26)] at hI
   refine W.seq (W.region ?_)
   iterate 3 refine pE rfl ?_
   refine WO.nil (qs (W.ret (an (au (an (bw (au (an (QF.ar trivial rfl ?_)))))))))
   rw [hq, ← hI]
   simp only [norm, cb, az]
   grind
  rw [if_neg (by simpa using h26)] at hI
  refine W.skip (qs (W.region ?_))
  iterate 2 refine pE rfl ?_
  refine pu (aG aa rfl rfl rfl rfl rfl rfl rfl rfl rfl) rfl ?_
  refine ck aa rfl rfl rfl rfl rfl rfl rfl rfl rfl rfl (fun _ => rfl) (by show (ks.length + 1) * 8 ≤ _; omega) ?_
  refine pE rfl (WO.nil (a0 (qs (W.region ?_))))
  iterate 2 refine pE rfl ?_
  refine WO.nil (W.aY [0, 3] ⟨(k + 1, ks ++ [(eX ab x).1]), ?_⟩ ?_ rfl ?_ ⟨rfl, rfl, rfl, rfl, rfl, rfl, trivial⟩ ?_ ⟨rfl, rfl, trivial⟩ rfl)
  · exact ⟨hlt, hI, by simp [h2]⟩
  · dsimp only; omega
  · repeat' first | exact trivial | refine ⟨rfl, ?_⟩ | refine ⟨aE (by assumption) (by assumption), ?_⟩
  repeat' exact trivial
 rw [hd] at hI
 simp only [fL] at hI
 have hkl : ks.length = e.kids.length := by omega
 refine W.exit (aN (aR (aO (qs ?_))))
 iterate 2 refine W.seq ?_
 refine W.region (pE rfl (pE rfl (WO.nil (qs (W.block (W.seq (W.region ?_)))))))
 iterate 2 refine pE rfl ?_
 refine WO.nil (qs (aq rfl (fun h35 => ?_) (fun h35 => ?_)))
 ·
  refine W.seq (W.region ?_)
  iterate 2 refine pE rfl ?_
  refine pE rfl ?_
  iterate 2 refine pE rfl ?_
  refine WO.nil (qs (W.ret (au (an (QF.ar trivial rfl ?_)))))
  rw [hq, ← hI]
  clear hq hI ih
  simp only [norm, cb, az, aV] at *
  rcases da (ks := ks) (by omega) with rfl | ⟨a, rfl⟩ | ⟨a, b, rfl⟩ <;> simp_all [gC, cD, both] <;> grind
 refine W.seq (W.region ?_)
 iterate 2 refine pE rfl ?_
 refine WO.nil (qs (aq rfl (fun h40 => ?_) (fun h40 => ?_)))
 ·
  refine W.seq (W.region ?_)
  iterate 2 refine pE rfl ?_
  refine pE rfl (pu (ae rfl rfl rfl (fM ..) rfl) rfl ?_)
  refine pE rfl (WO.nil (qs ?_))
  iterate 2 refine W.seq ?_
  refine W.region ?_
  iterate 2 refine pE rfl ?_
  refine WO.nil (qs (aq rfl (fun h47 => ?_) (fun h47 => ?_)))
  ·
   have h5 := jq (of_decide_eq_true h47)
   refine W.seq (W.region ?_)
   iterate 2 refine pE rfl ?_
   refine WO.nil (qs (W.ret (an (au (an (QF.ar trivial rfl ?_))))))
   rw [hq, ← hI]
   clear hq hI ih
   simp only [norm, cb, az, aV] at *
   rcases da (ks := ks) (by omega) with rfl | ⟨a, rfl⟩ | ⟨a, b, rfl⟩ <;> simp_all [gC, cD, both] <;> grind
  obtain ⟨i, c, h3, h4, h5, h6⟩ := jk (of_decide_eq_false h47)
  refine W.skip (qs (W.seq (W.region ?_)))
  iterate 2 refine pE rfl ?_
  refine pu (indexAddr aa rfl rfl rfl rfl rfl rfl (i := idx _) (by rw [h3]; exact Int.natCast_nonneg _) (by rw [h3]; exact aH h4) rfl) rfl ?_
  refine pE rfl (pE rfl ?_)
  iterate 2 refine pE rfl ?_
  refine WO.nil (qs (W.ret (au (an (QF.ar trivial rfl ?_)))))
  rw [hq, ← hI]
  clear hq hI ih
  simp only [norm, cb, az, aV] at *
  rcases da (ks := ks) (by omega) with rfl | ⟨a, rfl⟩ | ⟨a, b, rfl⟩ <;> simp_all [gC, cD, both] <;> grind
 iterate 2 refine W.seq ?_
 refine W.region ?_
 iterate 2 refine pE rfl ?_
 refine WO.nil (qs (aq rfl (fun h53 => ?_) (fun h53 => ?_)))
 ·
  refine W.skip (qs (W.cE rfl (W.seq (W.region (pE rfl (pu (ae rfl rfl rfl (eo ..) rfl) rfl ?_))))))
  refine pu (ae rfl rfl rfl (cL ..) rfl) rfl ?_
  iterate 4 refine pE rfl ?_
  refine WO.nil (qs (W.ret (au (an (QF.ar trivial rfl ?_)))))
  rw [hq, ← hI]
  clear hq hI ih
  simp only [norm, cb, az, aV] at *
  rcases da (ks := ks) (by omega) with rfl | ⟨a, rfl⟩ | ⟨a, b, rfl⟩ <;> simp_all [gC, cD, both] <;> grind
 refine W.seq (W.region ?_)
 iterate 2 refine pE rfl ?_
 refine WO.nil (qs (aq rfl (fun h53 => ?_) (fun h53 => ?_)))
 ·
  refine W.skip (qs (W.cE rfl (W.seq (W.region (pE rfl (pu (ae rfl rfl rfl (eo ..) rfl) rfl ?_))))))
  refine pu (ae rfl rfl rfl (cL ..) rfl) rfl ?_
  iterate 4 refine pE rfl ?_
  refine WO.nil (qs (W.ret (au (an (QF.ar trivial rfl ?_)))))
  rw [hq, ← hI]
  clear hq hI ih
  simp only [norm, cb, az, aV] at *
  rcases da (ks := ks) (by omega) with rfl | ⟨a, rfl⟩ | ⟨a, b, rfl⟩ <;> simp_all [gC, cD, both] <;> grind
 refine W.region ?_
 iterate 2 refine pE rfl ?_
 refine WO.nil (qs (aq rfl (fun h53 => ?_) (fun h53 => ?_)))
 ·
  refine W.seq (W.region (pE rfl (pu (ae rfl rfl rfl (eo ..) rfl) rfl ?_)))
  refine pu (ae rfl rfl rfl (cL ..) rfl) rfl ?_
  iterate 4 refine pE rfl ?_
  refine WO.nil (qs (W.ret (au (an (QF.ar trivial rfl ?_)))))
  rw [hq, ← hI]
  clear hq hI ih
  simp only [norm, cb, az, aV] at *
  rcases da (ks := ks) (by omega) with rfl | ⟨a, rfl⟩ | ⟨a, b, rfl⟩ <;> simp_all [gC, cD, both] <;> grind
 iterate 2 refine W.seq ?_
 refine W.region ?_
 iterate 2 refine pE rfl ?_
 refine WO.nil (qs (aq rfl (fun h62 => ?_) (fun h62 => ?_)))
 ·
  have h2l : ks.length = 2 := by rw [hkl]; apply hkv.2.2.2.1 <;> grind
  refine W.skip (qs (W.cE rfl (W.seq (W.bE aa (by kernel_rfl) ?_))))
  refine ao (ev aa rfl) rfl ?_
  refine ao (indexAddr aa rfl rfl rfl rfl rfl rfl (Int.le_refl _) (wy (by omega)) rfl) rfl ?_
  refine ao (ev aa rfl) rfl ?_
  refine ao (ev aa rfl) rfl ?_
  refine ao (indexAddr aa rfl rfl rfl rfl rfl rfl (by decide) (wC (by omega)) rfl) rfl ?_
  refine ao (ev aa rfl) rfl ?_
  refine ao (ae rfl rfl rfl (jM ..) rfl) rfl ?_
  refine ao (ev aa rfl) rfl ?_
  refine lA rfl rfl (fun _ => ?_) (fun _ => ?_)
  ·
   iterate 7 refine bt rfl rfl rfl rfl ?_
   refine ao (ev aa rfl) rfl ?_
   refine ao (ae rfl rfl rfl (cL ..) rfl) rfl ?_
   iterate 4 refine ao (ev aa rfl) rfl ?_
   refine CH.nil ?_
   refine qs (W.ret (au (an (QF.ar trivial rfl ?_))))
   rw [hq, ← hI]
   clear hq hI ih
   simp only [norm, cb, az, aV] at *
   rcases da (ks := ks) (by omega) with rfl | ⟨a, rfl⟩ | ⟨a, b, rfl⟩ <;> simp_all [gC, cD, both] <;> grind
  refine aL rfl rfl (ev aa rfl) rfl ?_
  refine aL rfl rfl (indexAddr aa rfl rfl rfl rfl rfl rfl (by decide) (wC (by omega)) rfl) rfl ?_
  refine aL rfl rfl (ev aa rfl) rfl ?_
  refine aL rfl rfl (ev aa rfl) rfl ?_
  refine aL rfl rfl (indexAddr aa rfl rfl rfl rfl rfl rfl (Int.le_refl _) (wy (by omega)) rfl) rfl ?_
  refine aL rfl rfl (ev aa rfl) rfl ?_
  refine aL rfl rfl (ae rfl rfl rfl (jM ..) rfl) rfl ?_
  refine ao (ev aa rfl) rfl ?_
  refine ao (ae rfl rfl rfl (cL ..) rfl) rfl ?_
  iterate 4 refine ao (ev aa rfl) rfl ?_
  refine CH.nil ?_
  refine qs (W.ret (au (an (QF.ar trivial rfl ?_))))
  rw [hq, ← hI]
  clear hq hI ih
  simp only [norm, cb, az, aV] at *
  rcases da (ks := ks) (by omega) with rfl | ⟨a, rfl⟩ | ⟨a, b, rfl⟩ <;> simp_all [gC, cD, both] <;> grind
 refine W.region ?_
 iterate 2 refine pE rfl ?_
 refine WO.nil (qs (aq rfl (fun h62 => ?_) (fun h62 => ?_)))
 ·
  have h2l : ks.length = 2 := by rw [hkl]; apply hkv.2.2.2.1 <;> grind
  refine W.seq (W.bE aa (by kernel_rfl) ?_)
  refine ao (ev aa rfl) rfl ?_
  refine ao (indexAddr aa rfl rfl rfl rfl rfl rfl (Int.le_refl _) (wy (by omega)) rfl) rfl ?_
  refine ao (ev aa rfl) rfl ?_
  refine ao (ev aa rfl) rfl ?_
  refine ao (indexAddr aa rfl rfl rfl rfl rfl rfl (by decide) (wC (by omega)) rfl) rfl ?_
  refine ao (ev aa rfl) rfl ?_
  refine ao (ae rfl rfl rfl (jM ..) rfl) rfl ?_
  refine ao (ev aa rfl) rfl ?_
  refine lA rfl rfl (fun _ => ?_) (fun _ => ?_)
  ·
   iterate 7 refine bt rfl rfl rfl rfl ?_
   refine ao (ev aa rfl) rfl ?_
   refine ao (ae rfl rfl rfl (cL ..) rfl) rfl ?_
   iterate 4 refine ao (ev aa rfl) rfl ?_
   refine CH.nil ?_
   refine qs (W.ret (au (an (QF.ar trivial rfl ?_))))
   rw [hq, ← hI]
   clear hq hI ih
   simp only [norm, cb, az, aV] at *
   rcases da (ks := ks) (by omega) with rfl | ⟨a, rfl⟩ | ⟨a, b, rfl⟩ <;> simp_all [gC, cD, both] <;> grind
  refine aL rfl rfl (ev aa rfl) rfl ?_
  refine aL rfl rfl (indexAddr aa rfl rfl rfl rfl rfl rfl (by decide) (wC (by omega)) rfl) rfl ?_
  refine aL rfl rfl (ev aa rfl) rfl ?_
  refine aL rfl rfl (ev aa rfl) rfl ?_
  refine aL rfl rfl (indexAddr aa rfl rfl rfl rfl rfl rfl (Int.le_refl _) (wy (by omega)) rfl) rfl ?_
  refine aL rfl rfl (ev aa rfl) rfl ?_
  refine aL rfl rfl (ae rfl rfl rfl (jM ..) rfl) rfl ?_
  refine ao (ev aa rfl) rfl ?_
  refine ao (ae rfl rfl rfl (cL ..) rfl) rfl ?_
  iterate 4 refine ao (ev aa rfl) rfl ?_
  refine CH.nil ?_
  refine qs (W.ret (au (an (QF.ar trivial rfl ?_))))
  rw [hq, ← hI]
  clear hq hI ih
  simp only [norm, cb, az, aV] at *
  rcases da (ks := ks) (by omega) with rfl | ⟨a, rfl⟩ | ⟨a, b, rfl⟩ <;> simp_all [gC, cD, both] <;> grind
 iterate 2 refine W.seq ?_
 refine W.region ?_
 iterate 2 refine pE rfl ?_
 refine WO.nil (qs (aq rfl (fun h84 => ?_) (fun h84 => ?_)))
 ·
  refine W.skip (qs (W.cE rfl (W.seq (W.region (pE rfl (pu (ae rfl rfl rfl (eo ..) rfl) rfl ?_))))))
  refine pE rfl (vo rfl rfl (fun _ => ?_) (fun _ => ?_))
  ·
   iterate 2 refine ay rfl rfl rfl rfl ?_
   refine pE rfl (pu (ae rfl rfl rfl (cL ..) rfl) rfl ?_)
   iterate 4 refine pE rfl ?_
   refine WO.nil (qs (W.ret (au (an (QF.ar trivial rfl ?_)))))
   rw [hq, ← hI]
   clear hq hI ih
   simp only [norm, cb, az, aV] at *
   rcases da (ks := ks) (by omega) with rfl | ⟨a, rfl⟩ | ⟨a, b, rfl⟩ <;> simp_all [gC, cD, both] <;> grind
  refine ah rfl rfl (pE rfl (ah rfl rfl (pu (ae rfl rfl rfl (eo ..) rfl) rfl ?_)))
  refine pE rfl (pu (ae rfl rfl rfl (cL ..) rfl) rfl ?_)
  iterate 4 refine pE rfl ?_
  refine WO.nil (qs (W.ret (au (an (QF.ar trivial rfl ?_)))))
  rw [hq, ← hI]
  clear hq hI ih
  simp only [norm, cb, az, aV] at *
  rcases da (ks := ks) (by omega) with rfl | ⟨a, rfl⟩ | ⟨a, b, rfl⟩ <;> simp_all [gC, cD, both] <;> grind
 refine W.region ?_
 iterate 2 refine pE rfl ?_
 refine WO.nil (qs (aq rfl (fun h84 => ?_) (fun h84 => ?_)))
 ·
  refine W.seq (W.region (pE rfl (pu (ae rfl rfl rfl (eo ..) rfl) rfl ?_)))
  refine pE rfl (vo rfl rfl (fun _ => ?_) (fun _ => ?_))
  ·
   iterate 2 refine ay rfl rfl rfl rfl ?_
   refine pE rfl (pu (ae rfl rfl rfl (cL ..) rfl) rfl ?_)
   iterate 4 refine pE rfl ?_
   refine WO.nil (qs (W.ret (au (an (QF.ar trivial rfl ?_)))))
   rw [hq, ← hI]
   clear hq hI ih
   simp only [norm, cb, az, aV] at *
   rcases da (ks := ks) (by omega) with rfl | ⟨a, rfl⟩ | ⟨a, b, rfl⟩ <;> simp_all [gC, cD, both] <;> grind
  refine ah rfl rfl (pE rfl (ah rfl rfl (pu (ae rfl rfl rfl (eo ..) rfl) rfl ?_)))
  refine pE rfl (pu (ae rfl rfl rfl (cL ..) rfl) rfl ?_)
  iterate 4 refine pE rfl ?_
  refine WO.nil (qs (W.ret (au (an (QF.ar trivial rfl ?_)))))
  rw [hq, ← hI]
  clear hq hI ih
  simp only [norm, cb, az, aV] at *
  rcases da (ks := ks) (by omega) with rfl | ⟨a, rfl⟩ | ⟨a, b, rfl⟩ <;> simp_all [gC, cD, both] <;> grind
 refine W.seq (W.region ?_)
 iterate 2 refine pE rfl ?_
 refine WO.nil (qs (aq rfl (fun h96 => ?_) (fun h96 => ?_)))
 ·
  have hc := hkv.2.2.1 (by simpa using h96)
  refine W.seq (W.region (pE rfl (pE rfl (pE rfl (pu (ae rfl rfl rfl (wI e.name ks (by rw [hkl]; exact hc.1) hc.2) rfl) rfl ?_)))))
  iterate 4 refine pE rfl ?_
  refine WO.nil (qs (W.ret (au (an (QF.ar trivial rfl ?_)))))
  rw [hq, ← hI]
  clear hq hI ih
  simp only [norm, cb, az, aV] at *
  rcases da (ks := ks) (by omega) with rfl | ⟨a, rfl⟩ | ⟨a, b, rfl⟩ <;> simp_all [gC, cD, both] <;> grind
 refine W.skip (a0 (qs (W.seq (W.region (pE rfl (pu (ae rfl rfl rfl (eo ..) rfl) rfl ?_))))))
 refine pu (ae rfl rfl rfl (cL ..) rfl) rfl ?_
 iterate 4 refine pE rfl ?_
 refine WO.nil (qs (W.ret (QF.ar trivial rfl ?_)))
 rw [hq, ← hI]
 by_cases h4 : e.op = 4
 ·
  obtain ⟨a, rfl⟩ := tm (l := ks) (by rw [hkl]; exact hkv.2.1 (.inr h4))
  clear hq hI ih hkv hkl h2 hk hd
  simp only [norm, cb, az, gC, cD, both, List.getD_cons_zero, List.all_cons, List.all_nil, Bool.and_true, h4]
  simp
 have h2l : ks.length = 2 := by rw [hkl]; apply hkv.2.2.2.1 <;> grind
 obtain ⟨a, b, rfl⟩ := bT h2l
 clear hq hI ih hkv hkl h2l h2 hk hd
 simp only [norm, cb, az, gC, cD, both, List.getD_cons_zero, List.getD_cons_succ, List.all_cons, List.all_nil, Bool.and_true]
 simp_all
end Go.Proofs.Ytjenenllmjlimaa
namespace Go.Proofs.Ytjenenllmjlimaa
open Go.Ab Go.Tb
set_option maxRecDepth 10000
attribute [local irreducible] W WO Pu QS QB QL QF QV bO CH QE
theorem rF (ks : List ByteArray) (s : ByteArray) (h : ks.length ≤ 1000) : cU Try.prog 94 [.ptr 0 0, .d (.v (.string s))] [[.own 1 (ks.map sc)]] 1 (.d (.v (.int .i64 (cO ks s)))) [[.own 1 ((et ks s).map sc)]] 1 := by
 refine cU.fa aa (n := 24) (rs := [.tmp 4]) Try.func94 (by kernel_rfl) rfl Try.ntmps94 Try.results94 rfl rfl fun C hC hG => ?_
 refine W.seq (W.region (pE rfl (WO.nil (qs ?_))))
 iterate 2 refine W.seq ?_
 refine W.region (pE rfl (pu (ae rfl rfl rfl (fq ..) rfl) rfl ?_))
 refine pE rfl (WO.nil (qs (aq rfl (fun h7 => ?_) (fun h7 => ?_))))
 ·
  refine W.seq (W.region (pE rfl (WO.nil (qs (W.ret (an (fQ.end aa [1] trivial rfl rfl rfl rfl ?_ ?_)))))))
  ·
   refine ⟨?_, trivial⟩
   have h6 : et ks s = ks := by grind [et, cO]
   rw [h6]; rfl
  simp only [bG, az, A.d.injEq, D.v.injEq, Value.int.injEq, true_and]; grind [cO]
 refine W.skip (qs ?_)
 iterate 2 refine W.seq ?_
 refine W.region ?_
 iterate 3 refine pE rfl ?_
 refine pE rfl (pE rfl (pu (ae rfl rfl rfl (dF ..) rfl) rfl ?_))
 refine WO.nil (qs (aq rfl (fun h13 => ?_) (fun h13 => ?_)))
 ·
  refine W.seq (W.region (pE rfl (WO.nil (qs (W.ret (an (fQ.end aa [1] trivial rfl rfl rfl rfl ?_ ?_)))))))
  ·
   refine ⟨?_, trivial⟩
   have h6 : et ks s = ks := by grind [et, cO]
   rw [h6]; rfl
  simp only [bG, az, A.d.injEq, D.v.injEq, Value.int.injEq, true_and]; grind [cO]
 refine W.skip (qs (W.seq (W.region ?_)))
 iterate 4 refine pE rfl ?_
 refine pE rfl (pE rfl (pu (aG aa rfl rfl rfl rfl rfl rfl rfl rfl rfl) rfl ?_))
 refine ck aa rfl rfl rfl rfl rfl rfl rfl rfl rfl rfl (fun _ => rfl) (by show (ks.length + 1) * 16 ≤ _; omega) ?_
 iterate 2 refine pE rfl ?_
 refine aQ aa rfl rfl rfl rfl rfl rfl rfl rfl (WO.nil (qs (W.seq (W.region (pE rfl (WO.nil (qs (W.ret (fQ.end aa [2] trivial rfl rfl rfl rfl ?_ ?_)))))))))
 ·
  refine ⟨?_, trivial⟩
  have h6 : et ks s = ks ++ [s] := by grind [et, cO]
  rw [h6]; rfl
 simp only [bG, az, A.d.injEq, D.v.injEq, Value.int.injEq, true_and]; grind [cO]
theorem nC (ks l : List ByteArray) (h : ks.length + l.length ≤ 1000) : cU Try.prog 95 [.ptr 0 0, .d (.sl (l.map sc))] [[.own 1 (ks.map sc)]] 1 (.d (.v (.int .i64 (dH ks l)))) [[.own 1 ((iv ks l).map sc)]] 1 := by
 refine cU.fa aa (n := 21) (rs := [.tmp 4]) Try.func95 (by kernel_rfl) rfl Try.ntmps95 Try.results95 rfl rfl fun C hC hG => ?_
 refine W.seq (W.region (pE rfl (WO.nil (qs ?_))))
 iterate 2 refine W.seq ?_
 refine W.region ?_
 iterate 3 refine pE rfl ?_
 refine WO.nil (qs (W.block (W.len (t := 8) rfl rfl (fun hlen => ?_))))
 try simp only [List.length_map, Ex.aF] at hlen
 refine W.aW (ι := {x : Nat × List ByteArray // match x with | (k, ns) => k ≤ l.length ∧ dH ns (l.drop k) = dH ks l ∧ iv ns (l.drop k) = iv ks l ∧ ns.length ≤ ks.length + k})
  (fun x => match x.1 with | (k, ns) => [(0, .ptr 0 0), (10, .d (.v (.int .i64 ((k : Nat) : Int))))]) [(8, _), (9, _)]
  (fun x => match x.1 with | (k, ns) => [(0, [.own 1 (ns.map sc)])]) [] [1] 2 (fun x => match x.1 with | (k, ns) => l.length - k)
  [0, 1] ⟨(0, ks), ?_⟩ rfl ?_ ⟨rfl, rfl, rfl, rfl, trivial⟩ ?_ trivial rfl ?_
 · exact ⟨Nat.zero_le _, rfl, rfl, Nat.le_refl _⟩
 · repeat' first | exact trivial | refine ⟨rfl, ?_⟩
 · repeat' first | exact trivial | refine ⟨rfl, ?_⟩
 rintro ⟨⟨k, ns⟩, hk, hI, hJ, hL⟩
 show W _ _ _ _ _ ⟨[(0, .ptr 0 0), (10, .d (.v (.int .i64 ((k : Nat) : Int)))), (8, _), (9, _)], [(0, [.own 1 (ns.map sc)])], [1], 2⟩
 refine W.seq (W.region (pE rfl (WO.nil (qs (W.seq (bg (l := l) (k := k) rfl (by simp [Ex.aF, aK]) hk (fun x hx hd hlt => ?_) (fun he hd => ?_)))))))
 ·
  rw [hd] at hI hJ
  simp only [dH, iv] at hI hJ
  refine W.skip (qs (W.seq (W.block (W.seq (W.region (pu (indexAddr aa rfl rfl rfl rfl rfl rfl (Int.natCast_nonneg _) (aH hx) rfl) rfl ?_))))))
  refine pE rfl (pE rfl (WO.nil (qs (W.seq (W.region ?_)))))
  iterate 2 refine pE rfl ?_
  refine jG [0] [1] rfl rfl rfl rfl rfl ((rF ns x (by omega))) rfl rfl (by rfl) (by rfl) rfl rfl rfl rfl ?_
  refine pE rfl (WO.nil (qs (W.seq (W.region ?_))))
  iterate 2 refine pE rfl ?_
  refine WO.nil (qs (aq rfl (fun h18 => ?_) (fun h18 => ?_)))
  ·
   have h18 : cO ns x ≠ 0 := by simpa using h18
   rw [if_pos h18] at hI hJ
   refine W.seq (W.region ?_)
   iterate 2 refine pE rfl ?_
   refine WO.nil (qs (W.ret (au (an (bw (au (an (fQ.end aa [3] trivial rfl rfl rfl rfl ?_ ?_))))))))
   ·
    refine ⟨?_, trivial⟩
    have hto : et ns x = iv ks l := by rw [← hJ]; simp [et, h18]
    rw [← hto]; rfl
   rw [← hI]; rfl
  have h18 : cO ns x = 0 := by simpa using h18
  rw [if_neg (by simp [h18])] at hI hJ
  have hto : et ns x = ns ++ [x] := by simp [et, h18]
  refine W.skip (a0 (qs (W.region ?_)))
  iterate 2 refine pE rfl ?_
  refine WO.nil (W.aY [0, 3] ⟨(k + 1, et ns x), ?_⟩ ?_ rfl ?_ ⟨rfl, rfl, rfl, rfl, trivial⟩ ?_ trivial rfl)
  ·
   refine ⟨hlt, ?_, ?_, ?_⟩
   · rw [hto]; exact hI
   · rw [hto]; exact hJ
   rw [hto]; simp; omega
  · dsimp only; omega
  · repeat' first | exact trivial | refine ⟨rfl, ?_⟩ | refine ⟨aE (by assumption) (by assumption), ?_⟩
  repeat' first | exact trivial | refine ⟨rfl, ?_⟩
 rw [hd] at hI hJ
 simp only [dH, iv] at hI hJ
 refine W.exit (aN (aR (aO (qs (W.seq (W.region (pE rfl (WO.nil (qs (W.ret (fQ.end aa [1] trivial rfl rfl rfl rfl ?_ ?_)))))))))))
 ·
  refine ⟨?_, trivial⟩
  rw [← hJ]; rfl
 rw [← hI]; rfl
theorem s8 (n m : Int) : aw Try.prog 71 [.d (.v (.int .i64 n)), .d (.v (.int .i64 m))] (.d (.v (.int .i64 (dZ n m)))) 0 := by
 refine aw.a8 (n := 12) (ts := [4]) Try.func71 (by kernel_rfl) rfl Try.ntmps71 Try.results71 rfl rfl fun C hC hG => ?_
 refine W.seq (W.region (pE rfl (WO.nil (qs (W.seq (W.block (W.seq (W.region ?_))))))))
 iterate 4 refine pE rfl ?_
 refine WO.nil (qs (aq rfl (fun h5 => ?_) (fun h5 => ?_)))
 ·
  refine W.seq (W.region (pE rfl (WO.nil (qs (W.ret (au (an (QF.ar trivial rfl ?_))))))))
  simp only [norm, az] at *; grind [dZ]
 refine W.seq (W.region ?_)
 iterate 3 refine pE rfl ?_
 refine WO.nil (qs (aq rfl (fun h9 => ?_) (fun h9 => ?_)))
 ·
  refine W.seq (W.region (pE rfl (WO.nil (qs (W.ret (au (an (QF.ar trivial rfl ?_))))))))
  simp only [norm, az] at *; grind [dZ]
 refine W.skip (a0 (qs (W.seq (W.region (pE rfl (WO.nil (qs (W.ret (QF.ar trivial rfl ?_)))))))))
 simp only [norm, az] at *; grind [dZ]
theorem jH (l : List ByteArray) (m : Int) : aw Try.prog 74 [.d (.sl (l.map sc)), .d (.v (.int .i64 m))] (.d (.v (.int .i64 (dG l m)))) 0 := by
 refine aw.a8 (n := 16) (ts := [4]) Try.func74 (by kernel_rfl) rfl Try.ntmps74 Try.results74 rfl rfl fun C hC hG => ?_
 refine W.seq (W.region (pE rfl (WO.nil (qs ?_))))
 iterate 2 refine W.seq ?_
 refine W.region ?_
 iterate 3 refine pE rfl ?_
 refine pu (ae rfl rfl rfl (s8 ..) rfl) rfl ?_
 refine pE rfl (WO.nil (qs (W.seq (W.region ?_))))
 iterate 2 refine pE rfl ?_
 refine WO.nil (qs (aq rfl (fun h12 => ?_) (fun h12 => ?_)))
 ·
  refine W.seq (W.region ?_)
  iterate 2 refine pE rfl ?_
  refine WO.nil (qs (W.ret (an (QF.ar trivial rfl ?_))))
  simp only [norm, az, back] at *; grind [dG]
 have h12 : dZ l.length m = 0 := by simpa using h12
 have hl16 : l.length ≤ 16 := by unfold dZ at h12; split at h12; omega; split at h12 <;> omega
 refine W.skip (qs (W.seq (W.region (a9 aa rfl rfl rfl (WO.nil (qs (W.seq (W.region (oI 0 0 rfl rfl rfl ?_)))))))))
 refine pE rfl (jG [0] [1] rfl rfl rfl rfl rfl ((nC [] l (by simp; omega))) rfl rfl (by rfl) (by rfl) rfl rfl rfl rfl ?_)
 refine pE rfl (WO.nil (qs (W.ret (QF.ar trivial rfl ?_))))
 simp only [norm, az, back] at *; grind [dG]
end Go.Proofs.Ytjenenllmjlimaa
namespace Go.Proofs.Ytjenenllmjlimaa
open Go.Ab Go.Tb
set_option maxRecDepth 10000
attribute [local irreducible] W WO Pu QS QB QL QF QV bO CH QE
theorem wS (e : Ex) : aw Try.prog 91 [.ag e.c] (.d (.v (.bool (uf e)))) 0 := by
 refine aw.a8 (n := 23) (ts := [2]) Try.func91 (by kernel_rfl) rfl Try.ntmps91 Try.results91 rfl rfl fun C hC hG => ?_
 have hkl := Ex.aF e
 refine W.seq (W.region (bM rfl rfl rfl (pE rfl (WO.nil (qs (W.seq ?_))))))
 apply aI; (case hb => rfl)
 ·
  refine pE rfl (pE rfl ?_)
  iterate 2 refine pE rfl ?_
  apply aC; (case hj => rfl); (case hl => rfl)
  ·
   refine ah rfl rfl (pE rfl (ah rfl rfl (pE rfl (ah rfl rfl ?_))))
   iterate 3 refine pE rfl ?_
   apply aC; (case hj => rfl); (case hl => rfl)
   ·
    refine ah rfl rfl (pE rfl (ah rfl rfl (pE rfl (ah rfl rfl (pu (build aa rfl rfl rfl rfl) rfl ?_)))))
    refine ah rfl rfl ?_
    iterate 3 refine pE rfl ?_
    apply aC; (case hj => rfl); (case hl => rfl)
    ·
     refine ah rfl rfl (pE rfl (ah rfl rfl (pE rfl (ah rfl rfl (pE rfl (ah rfl rfl ?_))))))
     iterate 3 refine pE rfl ?_
     refine WO.nil (aA rfl rfl rfl)
    iterate 4 refine ay rfl rfl rfl rfl ?_
    iterate 2 refine pE rfl ?_
    refine WO.nil (aA rfl rfl rfl)
   iterate 4 refine ay rfl rfl rfl rfl ?_
   iterate 2 refine pE rfl ?_
   iterate 4 refine ay rfl rfl rfl rfl ?_
   iterate 2 refine pE rfl ?_
   refine WO.nil (aA rfl rfl rfl)
  iterate 3 refine ay rfl rfl rfl rfl ?_
  iterate 2 refine pE rfl ?_
  iterate 4 refine ay rfl rfl rfl rfl ?_
  iterate 2 refine pE rfl ?_
  iterate 4 refine ay rfl rfl rfl rfl ?_
  iterate 2 refine pE rfl ?_
  refine WO.nil (aA rfl rfl rfl)
 refine qs (W.ret (QF.ar trivial rfl ?_))
 simp only [norm, az, uf, zeroV, hkl, Int.natCast_eq_zero]; grind
theorem gQ (l : List Int) (s : fx) : aw Try.prog 89 [.d (.sl (l.map ic)), .row (s.c.map A.d)] (.d (.v (.bool (l.any fun x => decide (s.op = x))))) 0 := by
 refine aw.a8 (n := 8) (ts := [3]) Try.func89 (by kernel_rfl) rfl Try.ntmps89 Try.results89 rfl rfl fun C hC hG => ?_
 refine W.seq (W.region (pE rfl (WO.nil (qs (W.seq (W.region ?_))))))
 iterate 2 refine pE rfl ?_
 refine pE rfl (pu (ae rfl rfl rfl (qU l s.op) rfl) rfl ?_)
 refine pE rfl (WO.nil (qs (W.ret (QF.ar trivial rfl ?_))))
 rfl
theorem v5 (l : List mW) (h : l.length ≤ 16) : aw Try.prog 72 [.d (.sl (l.map mW.c))] (.d (.v (.int .i64 (gG [] l)))) 0 := by
 refine aw.a8 (n := 27) (ts := [2]) Try.func72 (by kernel_rfl) rfl Try.ntmps72 Try.results72 rfl rfl fun C hC hG => ?_
 refine W.seq (W.region (pE rfl (WO.nil (qs (W.seq (W.region (a9 aa rfl rfl rfl (WO.nil (qs ?_)))))))))
 iterate 2 refine W.seq ?_
 refine W.region ?_
 iterate 3 refine pE rfl ?_
 refine WO.nil (qs (W.block (eY 0 0 rfl rfl rfl ?_)))
 refine W.len (t := 8) rfl rfl (fun hlen => ?_)
 try simp only [List.length_map, Ex.aF] at hlen
 refine W.aW (ι := {x : Nat × List ByteArray // match x with | (k, ns) => k ≤ l.length ∧ gG ns (l.drop k) = gG [] l ∧ ns.length ≤ k})
  (fun x => match x.1 with | (k, ns) => [(3, .ptr 0 0), (10, .d (.v (.int .i64 ((k : Nat) : Int))))]) [(8, _), (9, _)]
  (fun x => match x.1 with | (k, ns) => [(0, [.own 1 (ns.map sc)])]) [] [1] 2 (fun x => match x.1 with | (k, ns) => l.length - k)
  [0, 1] ⟨(0, []), ?_⟩ rfl ?_ ⟨rfl, rfl, rfl, rfl, trivial⟩ ?_ trivial rfl ?_
 · exact ⟨Nat.zero_le _, rfl, Nat.le_refl _⟩
 · repeat' first | exact trivial | refine ⟨rfl, ?_⟩
 · repeat' first | exact trivial | refine ⟨rfl, ?_⟩
 rintro ⟨⟨k, ns⟩, hk, hI, hL⟩
 show W _ _ _ _ _ ⟨[(3, .ptr 0 0), (10, .d (.v (.int .i64 ((k : Nat) : Int)))), (8, _), (9, _)], [(0, [.own 1 (ns.map sc)])], [1], 2⟩
 refine W.seq (W.region (pE rfl (WO.nil (qs (W.seq (bg (l := l) (k := k) rfl (by simp [Ex.aF, aK]) hk (fun x hx hd hlt => ?_) (fun he hd => ?_)))))))
 ·
  rw [hd] at hI
  simp only [gG] at hI
  refine W.skip (qs (W.seq (W.block (W.seq (W.region (pu (indexAddr aa rfl rfl rfl rfl rfl rfl (Int.natCast_nonneg _) (aH hx) rfl) rfl ?_))))))
  refine pE rfl (a9 aa rfl rfl rfl (aQ aa rfl rfl rfl rfl rfl rfl rfl rfl (WO.nil (qs ?_))))
  iterate 2 refine W.seq ?_
  refine W.region (pE rfl (pE rfl (pu (ae rfl rfl rfl (sH x.e) rfl) rfl ?_)))
  refine pE rfl (WO.nil (qs (W.seq (W.region ?_))))
  iterate 2 refine pE rfl ?_
  refine WO.nil (qs (aq rfl (fun h18 => ?_) (fun h18 => ?_)))
  ·
   rw [if_pos (by simpa using h18)] at hI
   refine W.seq (W.region ?_)
   iterate 2 refine pE rfl ?_
   refine WO.nil (qs (W.ret (an (au (an (bw (au (an (QF.ar trivial rfl ?_)))))))))
   rw [← hI]; rfl
  rw [if_neg (by simpa using h18)] at hI
  refine W.skip (qs (W.seq (W.region (pE rfl (pE rfl (jG [0] [1] rfl rfl rfl rfl rfl ((rF ns x.name (by omega))) rfl rfl (by rfl) (by rfl) rfl rfl rfl rfl ?_))))))
  refine pE rfl (WO.nil (qs (W.seq (W.region ?_))))
  iterate 2 refine pE rfl ?_
  refine WO.nil (qs (aq rfl (fun h24 => ?_) (fun h24 => ?_)))
  ·
   have h24 : cO ns x.name ≠ 0 := by simpa using h24
   rw [if_pos h24] at hI
   refine W.seq (W.region ?_)
   iterate 2 refine pE rfl ?_
   refine WO.nil (qs (W.ret (au (an (bw (au (an (QF.ar trivial rfl ?_))))))))
   rw [← hI]; rfl
  have h24 : cO ns x.name = 0 := by simpa using h24
  rw [if_neg (by simp [h24])] at hI
  have hto : et ns x.name = ns ++ [x.name] := by simp [et, h24]
  refine W.skip (a0 (qs (W.region ?_)))
  iterate 2 refine pE rfl ?_
  refine WO.nil (W.aY [0, 4] ⟨(k + 1, et ns x.name), ?_⟩ ?_ rfl ?_ ⟨rfl, rfl, rfl, rfl, trivial⟩ ?_ trivial rfl)
  ·
   refine ⟨hlt, ?_, ?_⟩
   · rw [hto]; exact hI
   rw [hto]; simp; omega
  · dsimp only; omega
  · repeat' first | exact trivial | refine ⟨rfl, ?_⟩ | refine ⟨aE (by assumption) (by assumption), ?_⟩
  repeat' first | exact trivial | refine ⟨rfl, ?_⟩
 rw [hd] at hI
 simp only [gG] at hI
 refine W.exit (aN (aR (aO (qs (W.seq (W.region (pE rfl (WO.nil (qs (W.ret (QF.ar trivial rfl ?_)))))))))))
 rw [← hI]; rfl
theorem vW (s : fx) : aw Try.prog 73 [.ag s.c] (.d (.v (.int .i64 (iM s)))) 0 := by
 refine aw.a8 (n := 77) (ts := [2]) Try.func73 (by kernel_rfl) rfl Try.ntmps73 Try.results73 rfl rfl fun C hC hG => ?_
 refine W.seq (W.region (bM rfl rfl rfl (pE rfl (WO.nil (qs (W.seq (W.block (W.seq (l5 (g := 0) (j := 8) rfl rfl (fun hl1 => ?_))))))))))
 refine l5 (g := 0) (j := 9) rfl rfl (fun hl2 => ?_)
 simp only [List.length_map, maxLen] at hl1 hl2
 refine W.region (pE rfl (pE rfl ?_))
 iterate 2 refine pE rfl ?_
 refine pE rfl ?_
 iterate 4 refine pE rfl ?_
 refine WO.nil (qs (aq rfl (fun h9 => ?_) (fun h9 => ?_)))
 ·
  have h9 : s.ab.length + s.aggs.length = 0 := by have h9' := of_decide_eq_true h9; rw [wrap_zero (by omega) (by simp only [List.length_map]; omega)] at h9'; simp only [List.length_map] at h9'; omega
  refine W.seq (W.region (pE rfl (WO.nil (qs (W.ret (au (an (QF.ar trivial rfl ?_))))))))
  simp only [norm, az, List.length_map] at *; grind [iM]
 have h9 : ¬ (s.ab.length + s.aggs.length = 0) := by have h9' := of_decide_eq_false h9; rw [wrap_zero (by omega) (by simp only [List.length_map]; omega)] at h9'; simp only [List.length_map] at h9'; omega
 refine W.seq ?_
 apply aI; (case hb => rfl)
 ·
  refine pE rfl (pE rfl ?_)
  iterate 3 refine pE rfl ?_
  apply aC; (case hj => rfl); (case hl => rfl)
  ·
   iterate 4 refine ay rfl rfl rfl rfl ?_
   iterate 2 refine pE rfl ?_
   refine WO.nil (aA rfl rfl rfl)
  refine ah rfl rfl (pE rfl (ah rfl rfl (pE rfl (ah rfl rfl (pE rfl (ah rfl rfl ?_))))))
  iterate 3 refine pE rfl ?_
  refine WO.nil (aA rfl rfl rfl)
 refine qs (aq rfl (fun h18 => ?_) (fun h18 => ?_))
 ·
  refine W.seq (W.region (pE rfl (WO.nil (qs (W.ret (au (an (QF.ar trivial rfl ?_))))))))
  simp only [norm, az, List.length_map] at *; grind [iM]
 have h18 : ¬ (16 < s.ab.length ∨ 16 < s.aggs.length) := by simp only [List.length_map] at h18; intro h; simp at h18; omega
 have hge : iM s = if dH [] s.ab ≠ 0 then dH [] s.ab else kj s.ab s.aggs := by unfold iM; rw [if_neg h9, if_neg h18]
 refine W.skip (a0 (qs (W.seq (W.region (a9 aa rfl rfl rfl (WO.nil (qs ?_)))))))
 iterate 2 refine W.seq ?_
 refine W.region (oI 1 0 rfl rfl rfl ?_)
 refine pE rfl (pE rfl (jG [1] [2] rfl rfl rfl rfl rfl ((nC [] s.ab (by simp; omega))) rfl rfl (by rfl) (by rfl) rfl rfl rfl rfl ?_))
 refine pE rfl (WO.nil (qs (W.seq (W.region ?_))))
 iterate 2 refine pE rfl ?_
 refine WO.nil (qs (aq rfl (fun h33 => ?_) (fun h33 => ?_)))
 ·
  rw [if_pos (by simpa using h33)] at hge
  refine W.seq (W.region ?_)
  iterate 2 refine pE rfl ?_
  refine WO.nil (qs (W.ret (an (QF.ar trivial rfl ?_))))
  rw [hge]; rfl
 have h33 : dH [] s.ab = 0 := by simpa using h33
 rw [if_neg (by simp [h33])] at hge
 have hto := rm [] s.ab h33
 refine W.skip (qs ?_)
 iterate 2 refine W.seq ?_
 refine W.region (pE rfl (pE rfl ?_))
 iterate 2 refine pE rfl ?_
 refine WO.nil (qs (W.block ?_))
 refine W.aW (ι := {x : Nat × List ByteArray // match x with | (k, ns) => k ≤ s.aggs.length ∧ kj ns (s.aggs.drop k) = kj s.ab s.aggs ∧ ns.length ≤ s.ab.length + k})
  (fun x => match x.1 with | (k, ns) => [(3, .ptr 0 0), (38, .d (.v (.int .i64 ((k : Nat) : Int))))]) [(36, _), (37, _)]
  (fun x => match x.1 with | (k, ns) => [(0, [.own 1 (ns.map sc)])]) [] [1] 2 (fun x => match x.1 with | (k, ns) => s.aggs.length - k)
  [1, 4] ⟨(0, iv [] s.ab), ?_⟩ rfl ?_ ⟨rfl, rfl, rfl, rfl, trivial⟩ ?_ trivial rfl ?_
 · exact ⟨Nat.zero_le _, by rw [hto]; rfl, by rw [hto]; simp⟩
 · repeat' first | exact trivial | refine ⟨rfl, ?_⟩
 · repeat' first | exact trivial | refine ⟨rfl, ?_⟩
 rintro ⟨⟨k, ns⟩, hk, hI, hL⟩
 show W _ _ _ _ _ ⟨[(3, .ptr 0 0), (38, .d (.v (.int .i64 ((k : Nat) : Int)))), (36, _), (37, _)], [(0, [.own 1 (ns.map sc)])], [1], 2⟩
 refine W.seq (W.region (pE rfl (WO.nil (qs (W.seq (bg (l := s.aggs) (k := k) rfl (by simp [Ex.aF, aK]) hk (fun x hx hd hlt => ?_) (fun he hd => ?_)))))))
 ·
  rw [hd] at hI
  simp only [kj] at hI
  refine W.skip (qs (W.seq (W.block (W.seq (W.region (pu (indexAddr aa rfl rfl rfl rfl rfl rfl (Int.natCast_nonneg _) (aH hx) rfl) rfl ?_))))))
  refine pE rfl (a9 aa rfl rfl rfl (aQ aa rfl rfl rfl rfl rfl rfl rfl rfl (WO.nil (qs (W.seq (W.region (pE rfl (pE rfl ?_))))))))
  iterate 2 refine pE rfl ?_
  refine WO.nil (qs ?_)
  iterate 2 refine W.seq ?_
  apply aI; (case hb => rfl)
  ·
   iterate 3 refine pE rfl ?_
   apply aC; (case hj => rfl); (case hl => rfl)
   ·
    refine ah rfl rfl (pu (aG aa rfl rfl rfl rfl rfl rfl rfl rfl rfl) rfl ?_)
    refine ah rfl rfl (pE rfl (ah rfl rfl (pE rfl (ah rfl rfl (pu (ae rfl rfl rfl (dF [nU, gU, gN, uN] x.fn) rfl) rfl ?_)))))
    refine ah rfl rfl ?_
    iterate 3 refine pE rfl ?_
    apply aC; (case hj => rfl); (case hl => rfl)
    ·
     iterate 5 refine ay rfl rfl rfl rfl ?_
     refine pE rfl (WO.nil (aA rfl rfl rfl))
    refine ah rfl rfl (pE rfl (ah rfl rfl (pE rfl (ah rfl rfl (pE rfl (ah rfl rfl (pE rfl (ah rfl rfl ?_))))))))
    iterate 2 refine pE rfl ?_
    refine WO.nil (aA rfl rfl rfl)
   iterate 5 refine ay rfl rfl rfl rfl ?_
   iterate 2 refine pE rfl ?_
   refine ah rfl rfl (pE rfl (ah rfl rfl (pE rfl (ah rfl rfl (pE rfl (ah rfl rfl (pE rfl (ah rfl rfl ?_))))))))
   iterate 2 refine pE rfl ?_
   refine WO.nil (aA rfl rfl rfl)
  refine qs (aq rfl (fun h60 => ?_) (fun h60 => ?_))
  ·
   have h60 : mz x = true := by revert h60; simp only [mz, oy, jm]; by_cases q : x.fn = B #[99, 111, 117, 110, 116] <;> by_cases q2 : x.col = B #[] <;> simp [q, q2] <;> grind
   rw [if_pos h60] at hI
   refine W.seq (W.region (pE rfl (WO.nil (qs (W.ret (an (au (an (bw (au (an (QF.ar trivial rfl ?_))))))))))))
   rw [hge, ← hI]; rfl
  have h60 : ¬ (mz x = true) := by revert h60; simp only [mz, oy, jm]; by_cases q : x.fn = B #[99, 111, 117, 110, 116] <;> by_cases q2 : x.col = B #[] <;> simp [q, q2] <;> grind
  rw [if_neg h60] at hI
  refine W.skip (qs ?_)
  iterate 2 refine W.seq ?_
  apply aI; (case hb => rfl)
  ·
   refine pE rfl (pE rfl ?_)
   iterate 2 refine pE rfl ?_
   apply aC; (case hj => rfl); (case hl => rfl)
   ·
    refine ah rfl rfl (pE rfl (ah rfl rfl (pE rfl (ah rfl rfl (pu (ae rfl rfl rfl (fq ..) rfl) rfl ?_)))))
    refine ah rfl rfl ?_
    iterate 2 refine pE rfl ?_
    refine WO.nil (aA rfl rfl rfl)
   iterate 4 refine ay rfl rfl rfl rfl ?_
   refine pE rfl (WO.nil (aA rfl rfl rfl))
  refine qs (aq rfl (fun h69 => ?_) (fun h69 => ?_))
  ·
   have h69 : x.col ≠ B #[] ∧ fR x.col = false := by revert h69; by_cases q2 : x.col = B #[] <;> simp [q2]
   rw [if_pos h69] at hI
   refine W.seq (W.region (pE rfl (WO.nil (qs (W.ret (an (au (an (bw (au (an (QF.ar trivial rfl ?_))))))))))))
   rw [hge, ← hI]; rfl
  have h69 : ¬ (x.col ≠ B #[] ∧ fR x.col = false) := by revert h69; by_cases q2 : x.col = B #[] <;> simp [q2]
  rw [if_neg h69] at hI
  refine W.skip (qs (W.seq (W.region (pE rfl (pE rfl (jG [0] [1] rfl rfl rfl rfl rfl ((rF ns x.name (by omega))) rfl rfl (by rfl) (by rfl) rfl rfl rfl rfl ?_))))))
  refine pE rfl (WO.nil (qs (W.seq (W.region ?_))))
  iterate 2 refine pE rfl ?_
  refine WO.nil (qs (aq rfl (fun h74 => ?_) (fun h74 => ?_)))
  ·
   rw [if_pos (by simpa using h74)] at hI
   refine W.seq (W.region ?_)
   iterate 2 refine pE rfl ?_
   refine WO.nil (qs (W.ret (au (an (bw (au (an (QF.ar trivial rfl ?_))))))))
   rw [hge, ← hI]; rfl
  have h74 : cO ns x.name = 0 := by simpa using h74
  rw [if_neg (by simp [h74])] at hI
  have hto : et ns x.name = ns ++ [x.name] := by simp [et, h74]
  refine W.skip (a0 (qs (W.region ?_)))
  iterate 2 refine pE rfl ?_
  refine WO.nil (W.aY [0, 4] ⟨(k + 1, et ns x.name), ?_⟩ ?_ rfl ?_ ⟨rfl, rfl, rfl, rfl, trivial⟩ ?_ trivial rfl)
  ·
   refine ⟨hlt, ?_, ?_⟩
   · rw [hto]; exact hI
   rw [hto]; simp; omega
  · dsimp only; omega
  · repeat' first | exact trivial | refine ⟨rfl, ?_⟩ | refine ⟨aE (by assumption) (by assumption), ?_⟩
  repeat' first | exact trivial | refine ⟨rfl, ?_⟩
 rw [hd] at hI
 simp only [kj] at hI
 refine W.exit (aN (aR (aO (qs (W.seq (W.region (pE rfl (WO.nil (qs (W.ret (QF.ar trivial rfl ?_)))))))))))
 rw [hge, ← hI]; rfl
end Go.Proofs.Ytjenenllmjlimaa
namespace Go.Proofs.Ytjenenllmjlimaa
open Go.Ab Go.Tb
set_option maxRecDepth 10000
attribute [local irreducible] W WO Pu QS QB QL QF QV bO CH QE
theorem wU (s : fx) : aw Try.prog 69 [.ag s.c] (.d (.v (.bool (gI s)))) 0 := by
 refine aw.a8 (n := 83) (ts := [2]) Try.func69 (by kernel_rfl) rfl Try.ntmps69 Try.results69 rfl rfl fun C hC hG => ?_
 refine W.seq (W.region (bM rfl rfl rfl (pE rfl (WO.nil (qs (W.seq (W.region ?_)))))))
 iterate 2 refine pE rfl ?_
 refine WO.nil (qs (W.seq (W.block (W.seq ?_))))
 apply aI; (case hb => rfl)
 ·
  refine pE rfl (pE rfl ?_)
  iterate 2 refine pE rfl ?_
  apply aC; (case hj => rfl); (case hl => rfl)
  ·
   iterate 3 refine ay rfl rfl rfl rfl ?_
   iterate 2 refine pE rfl ?_
   refine WO.nil (aA rfl rfl rfl)
  refine ah rfl rfl (pE rfl (ah rfl rfl (pE rfl (ah rfl rfl ?_))))
  iterate 3 refine pE rfl ?_
  refine WO.nil (aA rfl rfl rfl)
 refine qs (aq rfl (fun h5 => ?_) (fun h5 => ?_))
 ·
  refine W.seq (W.region (pE rfl (WO.nil (qs (W.ret (au (an (QF.ar trivial rfl ?_))))))))
  simp only [norm, az, List.length_map, List.any_cons, List.any_nil, Bool.or_false] at *; congr 3; simp only [gI, fz]; grind
 iterate 2 refine W.seq ?_
 apply aI; (case hb => rfl)
 ·
  refine pE rfl (pu (aG aa rfl rfl rfl rfl rfl rfl rfl rfl rfl) rfl ?_)
  refine pu (ae rfl rfl rfl (gQ [1] s) rfl) rfl ?_
  iterate 2 refine pE rfl ?_
  apply aC; (case hj => rfl); (case hl => rfl)
  ·
   refine ah rfl rfl (pE rfl (ah rfl rfl (pE rfl (ah rfl rfl (pu (ae rfl rfl rfl (wS s.cond) rfl) rfl ?_)))))
   refine ah rfl rfl ?_
   iterate 3 refine pE rfl ?_
   refine WO.nil (aA rfl rfl rfl)
  iterate 4 refine ay rfl rfl rfl rfl ?_
  iterate 2 refine pE rfl ?_
  refine WO.nil (aA rfl rfl rfl)
 refine qs (aq rfl (fun h14 => ?_) (fun h14 => ?_))
 ·
  refine W.skip (qs (W.cE rfl (W.seq (W.region (pE rfl (WO.nil (qs (W.ret (au (an (QF.ar trivial rfl ?_)))))))))))
  simp only [norm, az, List.length_map, List.any_cons, List.any_nil, Bool.or_false] at *; congr 3; simp only [gI, fz]; grind
 refine W.seq ?_
 apply aI; (case hb => rfl)
 ·
  refine pE rfl (pu (aG aa rfl rfl rfl rfl rfl rfl rfl rfl rfl) rfl ?_)
  refine pu (ae rfl rfl rfl (gQ [2] s) rfl) rfl ?_
  iterate 2 refine pE rfl ?_
  apply aC; (case hj => rfl); (case hl => rfl)
  ·
   refine ah rfl rfl (pE rfl (ah rfl rfl (pE rfl (ah rfl rfl (pE rfl (ah rfl rfl ?_))))))
   iterate 3 refine pE rfl ?_
   refine WO.nil (aA rfl rfl rfl)
  iterate 4 refine ay rfl rfl rfl rfl ?_
  iterate 2 refine pE rfl ?_
  refine WO.nil (aA rfl rfl rfl)
 refine qs (aq rfl (fun h14 => ?_) (fun h14 => ?_))
 ·
  refine W.skip (qs (W.cE rfl (W.seq (W.region (pE rfl (WO.nil (qs (W.ret (au (an (QF.ar trivial rfl ?_)))))))))))
  simp only [norm, az, List.length_map, List.any_cons, List.any_nil, Bool.or_false] at *; congr 3; simp only [gI, fz]; grind
 refine W.seq ?_
 apply aI; (case hb => rfl)
 ·
  refine pE rfl (pu (aG aa rfl rfl rfl rfl rfl rfl rfl rfl rfl) rfl ?_)
  refine pu (ae rfl rfl rfl (gQ [3] s) rfl) rfl ?_
  iterate 2 refine pE rfl ?_
  apply aC; (case hj => rfl); (case hl => rfl)
  ·
   refine ah rfl rfl (pE rfl (ah rfl rfl (pE rfl (ah rfl rfl (pE rfl (ah rfl rfl ?_))))))
   iterate 3 refine pE rfl ?_
   refine WO.nil (aA rfl rfl rfl)
  iterate 4 refine ay rfl rfl rfl rfl ?_
  iterate 2 refine pE rfl ?_
  refine WO.nil (aA rfl rfl rfl)
 refine qs (aq rfl (fun h14 => ?_) (fun h14 => ?_))
 ·
  refine W.skip (qs (W.cE rfl (W.seq (W.region (pE rfl (WO.nil (qs (W.ret (au (an (QF.ar trivial rfl ?_)))))))))))
  simp only [norm, az, List.length_map, List.any_cons, List.any_nil, Bool.or_false] at *; congr 3; simp only [gI, fz]; grind
 refine W.seq ?_
 apply aI; (case hb => rfl)
 ·
  refine pE rfl (pu (aG aa rfl rfl rfl rfl rfl rfl rfl rfl rfl) rfl ?_)
  refine pu (ae rfl rfl rfl (gQ [4] s) rfl) rfl ?_
  iterate 2 refine pE rfl ?_
  apply aC; (case hj => rfl); (case hl => rfl)
  ·
   refine ah rfl rfl (pE rfl (ah rfl rfl (pE rfl (ah rfl rfl (pE rfl (ah rfl rfl ?_))))))
   iterate 3 refine pE rfl ?_
   refine WO.nil (aA rfl rfl rfl)
  iterate 4 refine ay rfl rfl rfl rfl ?_
  iterate 2 refine pE rfl ?_
  refine WO.nil (aA rfl rfl rfl)
 refine qs (aq rfl (fun h14 => ?_) (fun h14 => ?_))
 ·
  refine W.skip (qs (W.cE rfl (W.seq (W.region (pE rfl (WO.nil (qs (W.ret (au (an (QF.ar trivial rfl ?_)))))))))))
  simp only [norm, az, List.length_map, List.any_cons, List.any_nil, Bool.or_false] at *; congr 3; simp only [gI, fz]; grind
 apply aI; (case hb => rfl)
 ·
  refine pE rfl (pu (aG aa rfl rfl rfl rfl rfl rfl rfl rfl rfl) rfl ?_)
  refine pu (ae rfl rfl rfl (gQ [5] s) rfl) rfl ?_
  iterate 2 refine pE rfl ?_
  apply aC; (case hj => rfl); (case hl => rfl)
  ·
   refine ah rfl rfl (pE rfl (ah rfl rfl (pE rfl (ah rfl rfl ?_))))
   iterate 3 refine pE rfl ?_
   refine WO.nil (aA rfl rfl rfl)
  iterate 3 refine ay rfl rfl rfl rfl ?_
  iterate 2 refine pE rfl ?_
  refine WO.nil (aA rfl rfl rfl)
 refine qs (aq rfl (fun h14 => ?_) (fun h14 => ?_))
 ·
  refine W.seq (W.region (pE rfl (WO.nil (qs (W.ret (au (an (QF.ar trivial rfl ?_))))))))
  simp only [norm, az, List.length_map, List.any_cons, List.any_nil, Bool.or_false] at *; congr 3; simp only [gI, fz]; grind
 refine W.seq ?_
 apply aI; (case hb => rfl)
 ·
  refine pE rfl (pu (aG aa rfl rfl rfl rfl rfl rfl rfl rfl rfl) rfl ?_)
  refine pu (ae rfl rfl rfl (gQ [6, 7, 8] s) rfl) rfl ?_
  iterate 2 refine pE rfl ?_
  apply aC; (case hj => rfl); (case hl => rfl)
  ·
   refine ah rfl rfl (pE rfl (ah rfl rfl (pE rfl (ah rfl rfl ?_))))
   iterate 3 refine pE rfl ?_
   refine WO.nil (aA rfl rfl rfl)
  iterate 3 refine ay rfl rfl rfl rfl ?_
  iterate 2 refine pE rfl ?_
  refine WO.nil (aA rfl rfl rfl)
 refine qs (aq rfl (fun h64 => ?_) (fun h64 => ?_))
 ·
  refine W.seq (W.region (pE rfl (WO.nil (qs (W.ret (au (an (QF.ar trivial rfl ?_))))))))
  simp only [norm, az, List.length_map, List.any_cons, List.any_nil, Bool.or_false] at *; congr 3; simp only [gI, fz]; grind
 refine W.skip (a0 (qs (W.seq ?_)))
 apply aI; (case hb => rfl)
 ·
  refine pE rfl (pu (aG aa rfl rfl rfl rfl rfl rfl rfl rfl rfl) rfl ?_)
  refine pu (ae rfl rfl rfl (gQ [3, 6, 7, 8, 9] s) rfl) rfl ?_
  refine pE rfl ?_
  apply aC; (case hj => rfl); (case hl => rfl)
  ·
   iterate 4 refine ay rfl rfl rfl rfl ?_
   iterate 2 refine pE rfl ?_
   refine WO.nil (aA rfl rfl rfl)
  refine ah rfl rfl (pE rfl (ah rfl rfl (pE rfl (ah rfl rfl (pE rfl (ah rfl rfl ?_))))))
  iterate 3 refine pE rfl ?_
  refine WO.nil (aA rfl rfl rfl)
 refine qs (W.ret (QF.ar trivial rfl ?_))
 simp only [norm, az, List.length_map, List.any_cons, List.any_nil, Bool.or_false] at *; congr 3; simp only [gI, fz]; grind
theorem wP (s : fx) (hs : s.sorts.length ≤ 100000) : aw Try.prog 52 [.ag s.c] (.d (.v (.int .i64 (b9 s)))) 0 := by
 refine aw.a8 (n := 77) (ts := [2]) Try.func52 (by kernel_rfl) rfl Try.ntmps52 Try.results52 rfl rfl fun C hC hG => ?_
 refine W.seq (W.region (bM rfl rfl rfl (pE rfl (WO.nil (qs ?_)))))
 iterate 2 refine W.seq ?_
 refine W.region (pE rfl (pu (ae rfl rfl rfl (wU s) rfl) rfl ?_))
 refine pE rfl (WO.nil (qs (aq rfl (fun h10 => ?_) (fun h10 => ?_))))
 ·
  have h10 : gI s = false := by simpa using h10
  refine W.seq (W.region (pE rfl (WO.nil (qs (W.ret (an (QF.ar trivial rfl ?_)))))))
  simp only [norm, az, List.length_map] at *; grind [b9]
 have h10 : gI s = true := by simpa using h10
 refine W.skip (qs ?_)
 iterate 2 refine W.seq ?_
 refine W.region (pE rfl (pE rfl (WO.nil (qs (W.block (W.seq (W.region ?_)))))))
 iterate 2 refine pE rfl ?_
 refine WO.nil (qs (aq rfl (fun h13 => ?_) (fun h13 => ?_)))
 ·
  refine W.seq (W.region (pE rfl (pE rfl (pu (ae rfl rfl rfl (sH s.cond) rfl) rfl ?_))))
  refine pE rfl (WO.nil (qs (W.ret (au (an (QF.ar trivial rfl ?_))))))
  simp only [norm, az, List.length_map] at *; grind [b9]
 refine W.seq (W.region ?_)
 iterate 2 refine pE rfl ?_
 refine WO.nil (qs (aq rfl (fun h18 => ?_) (fun h18 => ?_)))
 ·
  iterate 2 refine W.seq ?_
  refine W.region (pE rfl (pE rfl (pE rfl (pu (ae rfl rfl rfl (s8 ..) rfl) rfl ?_))))
  refine pE rfl (WO.nil (qs (W.seq (W.region ?_))))
  iterate 2 refine pE rfl ?_
  refine WO.nil (qs (aq rfl (fun h25 => ?_) (fun h25 => ?_)))
  ·
   refine W.seq (W.region ?_)
   iterate 2 refine pE rfl ?_
   refine WO.nil (qs (W.ret (an (au (an (QF.ar trivial rfl ?_))))))
   simp only [norm, az, List.length_map] at *; grind [b9]
  have h25 : dZ s.items.length 1 = 0 := by simpa using h25
  have hl16 : s.items.length ≤ 16 := by unfold dZ at h25; split at h25; omega; split at h25 <;> omega
  refine W.skip (qs (W.seq (W.region (pE rfl (pE rfl (pu (ae rfl rfl rfl (v5 s.items hl16) rfl) rfl ?_))))))
  refine pE rfl (WO.nil (qs (W.ret (au (an (QF.ar trivial rfl ?_))))))
  simp only [norm, az, List.length_map] at *; grind [b9]
 refine W.seq (W.region ?_)
 iterate 2 refine pE rfl ?_
 refine WO.nil (qs (aq rfl (fun h30 => ?_) (fun h30 => ?_)))
 ·
  refine W.seq (W.region (pE rfl (pu (ae rfl rfl rfl (vW s) rfl) rfl ?_)))
  refine pE rfl (WO.nil (qs (W.ret (au (an (QF.ar trivial rfl ?_))))))
  simp only [norm, az, List.length_map] at *; grind [b9]
 refine W.seq (W.region ?_)
 iterate 2 refine pE rfl ?_
 refine WO.nil (qs (aq rfl (fun h34 => ?_) (fun h34 => ?_)))
 ·
  refine W.seq (W.region (pE rfl (WO.nil (qs ?_))))
  iterate 2 refine W.seq ?_
  refine W.region (pE rfl (pE rfl ?_))
  iterate 2 refine pE rfl ?_
  refine WO.nil (qs (W.block (aU (d := 4) rfl rfl ?_)))
  refine W.len (t := 37) rfl rfl (fun hlen => ?_)
  try simp only [List.length_map, Ex.aF] at hlen
  refine W.aW (ι := {x : Nat × List ByteArray // match x with | (k, ns) => k ≤ s.sorts.length ∧ ns = (s.sorts.take k).map qk.col})
   (fun x => match x.1 with | (k, ns) => [(4, .own 0 (ns.map sc)), (39, .d (.v (.int .i64 ((k : Nat) : Int))))]) [(37, _), (38, _)]
   (fun x => match x.1 with | (k, ns) => []) [] [0] 1 (fun x => match x.1 with | (k, ns) => s.sorts.length - k)
   [1] ⟨(0, []), ?_⟩ rfl ?_ ⟨rfl, rfl, rfl, rfl, trivial⟩ ?_ trivial rfl ?_
  · exact ⟨Nat.zero_le _, rfl⟩
  · repeat' first | exact trivial | refine ⟨rfl, ?_⟩
  · repeat' exact trivial
  rintro ⟨⟨k, ns⟩, hk, hI⟩
  show W _ _ _ _ _ ⟨[(4, .own 0 (ns.map sc)), (39, .d (.v (.int .i64 ((k : Nat) : Int)))), (37, _), (38, _)], [], [0], 1⟩
  refine W.seq (W.region (pE rfl (WO.nil (qs (W.seq (bg (l := s.sorts) (k := k) rfl (by simp [Ex.aF, aK]) hk (fun x hx hd hlt => ?_) (fun he hd => ?_)))))))
  ·
   have hnl : ns.length = k := by rw [hI]; simp; omega
   refine W.skip (qs (W.seq (W.block (W.seq (W.region (pu (indexAddr aa rfl rfl rfl rfl rfl rfl (Int.natCast_nonneg _) (aH hx) rfl) rfl ?_))))))
   refine pE rfl (a9 aa rfl rfl rfl (aQ aa rfl rfl rfl rfl rfl rfl rfl rfl (WO.nil (qs (W.region ?_)))))
   iterate 2 refine pE rfl ?_
   refine pE rfl (pu (aG aa rfl rfl rfl rfl rfl rfl rfl rfl rfl) rfl ?_)
   refine ck aa rfl rfl rfl rfl rfl rfl rfl rfl rfl rfl (fun _ => rfl) (by show (ns.length + 1) * 16 ≤ _; omega) ?_
   refine pE rfl (WO.nil (a0 (qs (W.region ?_))))
   iterate 2 refine pE rfl ?_
   refine WO.nil (W.aY [2] ⟨(k + 1, ns ++ [x.col]), ?_⟩ ?_ rfl ?_ ⟨rfl, rfl, rfl, rfl, trivial⟩ ?_ trivial rfl)
   · exact ⟨hlt, by rw [hI, List.take_add_one, hx]; simp⟩
   · dsimp only; omega
   · repeat' first | exact trivial | refine ⟨rfl, ?_⟩ | refine ⟨aE (by assumption) (by assumption), ?_⟩
   repeat' exact trivial
  have hns : ns = s.sorts.map qk.col := by rw [hI, he, List.take_length]
  refine W.exit (aN (aR (aO (qs (W.seq (W.region (pE rfl (pu (ae rfl rfl rfl (jH ns 1) rfl) rfl ?_))))))))
  refine pE rfl (WO.nil (qs (W.ret (au (an (QF.ar trivial rfl ?_))))))
  simp only [norm, az, List.length_map] at *; grind [b9]
 refine W.seq (W.region ?_)
 iterate 2 refine pE rfl ?_
 refine WO.nil (qs (aq rfl (fun h51 => ?_) (fun h51 => ?_)))
 ·
  iterate 2 refine W.seq ?_
  apply aI; (case hb => rfl)
  ·
   refine pE rfl (pE rfl ?_)
   iterate 2 refine pE rfl ?_
   apply aC; (case hj => rfl); (case hl => rfl)
   ·
    iterate 3 refine ay rfl rfl rfl rfl ?_
    refine pE rfl (WO.nil (aA rfl rfl rfl))
   refine ah rfl rfl (pE rfl (ah rfl rfl (pE rfl (ah rfl rfl ?_))))
   iterate 2 refine pE rfl ?_
   refine WO.nil (aA rfl rfl rfl)
  refine qs (aq rfl (fun h60 => ?_) (fun h60 => ?_))
  ·
   refine W.seq (W.region (pE rfl (WO.nil (qs (W.ret (an (au (an (QF.ar trivial rfl ?_)))))))))
   simp only [norm, az, List.length_map] at *; grind [b9]
  refine W.skip (qs (W.seq (W.region (pE rfl (WO.nil (qs (W.ret (au (an (QF.ar trivial rfl ?_))))))))))
  simp only [norm, az, List.length_map] at *; grind [b9]
 refine W.seq (W.region ?_)
 iterate 2 refine pE rfl ?_
 refine WO.nil (qs (aq rfl (fun h61 => ?_) (fun h61 => ?_)))
 ·
  refine W.seq (W.region (pE rfl (pE rfl (pu (ae rfl rfl rfl (jH ..) rfl) rfl ?_))))
  refine pE rfl (WO.nil (qs (W.ret (au (an (QF.ar trivial rfl ?_))))))
  simp only [norm, az, List.length_map] at *; grind [b9]
 refine W.skip (a0 (qs ?_))
 iterate 2 refine W.seq ?_
 refine W.region (pE rfl (pE rfl (pu (ae rfl rfl rfl (fq ..) rfl) rfl ?_)))
 refine pE rfl (WO.nil (qs (aq rfl (fun h69 => ?_) (fun h69 => ?_))))
 ·
  refine W.seq (W.region (pE rfl (WO.nil (qs (W.ret (an (QF.ar trivial rfl ?_)))))))
  simp only [norm, az, List.length_map] at *; grind [b9]
 refine W.skip (qs (W.seq (W.region (pE rfl (WO.nil (qs ?_))))))
 iterate 2 refine W.seq ?_
 refine W.region (pE rfl (pE rfl (pE rfl (WO.nil (qs (aq rfl (fun h72 => ?_) (fun h72 => ?_)))))))
 ·
  refine W.region (pE rfl (WO.nil (qs (W.seq (W.region (pE rfl (pE rfl (pE rfl (pu (ae rfl rfl rfl (jH ..) rfl) rfl ?_)))))))))
  refine pE rfl (WO.nil (qs (W.ret (QF.ar trivial rfl ?_))))
  simp only [norm, az, List.length_map] at *; grind [b9]
 refine W.skip (qs (W.seq (W.region (pE rfl (pE rfl (pE rfl (pu (ae rfl rfl rfl (jH ..) rfl) rfl ?_)))))))
 refine pE rfl (WO.nil (qs (W.ret (QF.ar trivial rfl ?_))))
 simp only [norm, az, List.length_map] at *; grind [b9]
end Go.Proofs.Ytjenenllmjlimaa
namespace Go.Proofs.Ytjenenllmjlimaa
open Go.Ab Go.Tb
set_option maxRecDepth 10000
attribute [local irreducible] W WO Pu QS QB QL QF QV bO CH QE
def rL : Option bj → List D
 | some t => t.c
 | none => [.v (.slice none 0 0), .v (.slice none 0 0)]
theorem w9 (o : Option bj) : ∃ p q, rL o = [p, q] := by cases o <;> exact ⟨_, _, rfl⟩
theorem w5 (d : List kF) (name : ByteArray) : aw Try.prog 82 [.d (.sl (d.map kF.c)), .d (.v (.string name))] (.tup [.ag (rL (eD d name)), .d (.v (.bool (eD d name).isSome))]) 0 := by
 refine aw.fa aa (n := 22) (rs := [.cell 4 25, .tmp 5]) Try.func82 (by kernel_rfl) rfl Try.ntmps82 Try.results82 rfl fun C hC hG => ?_
 refine W.seq (W.region (a9 aa rfl rfl rfl (pE rfl (WO.nil (qs ?_)))))
 iterate 2 refine W.seq ?_
 refine W.region ?_
 iterate 3 refine pE rfl ?_
 refine WO.nil (qs (W.block (W.len (t := 8) rfl rfl (fun hlen => ?_))))
 try simp only [List.length_map, Ex.aF] at hlen
 refine W.aW (ι := {x : Nat // match x with | k => k ≤ d.length ∧ eD (d.drop k) name = eD d name})
  (fun x => match x.1 with | k => [(4, .ptr 0 0), (10, .d (.v (.int .i64 ((k : Nat) : Int))))]) [(1, _), (8, _), (9, _)]
  (fun x => match x.1 with | k => []) [(0, _)] [] 1 (fun x => match x.1 with | k => d.length - k)
  [0] ⟨0, ?_⟩ rfl ?_ ⟨rfl, rfl, rfl, rfl, rfl, rfl, trivial⟩ ?_ ⟨rfl, rfl, trivial⟩ rfl ?_
 · exact ⟨Nat.zero_le _, rfl⟩
 · repeat' first | exact trivial | refine ⟨rfl, ?_⟩
 · repeat' exact trivial
 rintro ⟨k, hk, hI⟩
 show W _ _ _ _ _ ⟨[(4, .ptr 0 0), (10, .d (.v (.int .i64 ((k : Nat) : Int)))), (1, _), (8, _), (9, _)], [(0, _)], [], 1⟩
 refine W.seq (W.region (pE rfl (WO.nil (qs (W.seq (bg (l := d) (k := k) rfl (by simp [Ex.aF, aK]) hk (fun x hx hd hlt => ?_) (fun he hd => ?_)))))))
 ·
  rw [hd] at hI
  simp only [eD, List.find?_cons] at hI
  refine W.skip (qs (W.seq (W.block (W.seq (W.region (pu (indexAddr aa rfl rfl rfl rfl rfl rfl (Int.natCast_nonneg _) (aH hx) rfl) rfl ?_))))))
  refine pE rfl (a9 aa rfl rfl rfl (aQ aa rfl rfl rfl rfl rfl rfl rfl rfl (WO.nil (qs (W.seq (W.region (pE rfl (pE rfl ?_))))))))
  iterate 2 refine pE rfl ?_
  refine WO.nil (qs (aq rfl (fun h17 => ?_) (fun h17 => ?_)))
  ·
   rw [h17] at hI
   refine W.seq (W.region (pE rfl (pE rfl (aQ aa rfl rfl rfl rfl rfl rfl rfl rfl (pE rfl (WO.nil (qs (W.ret (au (an (bw (au (an ?_)))))))))))))
   refine QV.ar aa trivial rfl ?_
   have h0 : eD d name = some x.table := hI.symm
   rw [h0]; rfl
  rw [h17] at hI
  refine W.skip (a0 (qs (W.region ?_)))
  iterate 2 refine pE rfl ?_
  refine WO.nil (W.aY [0] ⟨k + 1, ?_⟩ ?_ rfl ?_ ⟨rfl, rfl, rfl, rfl, rfl, rfl, trivial⟩ ?_ ⟨rfl, rfl, trivial⟩ rfl)
  · exact ⟨hlt, hI⟩
  · dsimp only; omega
  · repeat' first | exact trivial | refine ⟨rfl, ?_⟩ | refine ⟨aE (by assumption) (by assumption), ?_⟩
  repeat' exact trivial
 rw [hd] at hI
 refine W.exit (aN (aR (aO (qs (W.seq (W.region (pu (build aa rfl rfl rfl rfl) rfl ?_)))))))
 refine aQ aa rfl rfl rfl rfl rfl rfl rfl rfl (pE rfl (WO.nil (qs (W.ret (QV.ar aa trivial rfl ?_)))))
 have h0 : eD d name = none := hI.symm
 rw [h0]; rfl
theorem v8 (ab : List Col) (z : D) (name : ByteArray) : aw Try.prog 30 [.ag [.sl (ab.map Col.c), z], .d (.v (.string name))] (.d (.v (.int .i64 (idx (ab.findIdx? fun x => decide (x.name = name)))))) 0 := by
 refine aw.a8 (n := 9) (ts := [4]) Try.func30 (by kernel_rfl) rfl Try.ntmps30 Try.results30 rfl rfl fun C hC hG => ?_
 refine W.seq (W.region (bM rfl rfl rfl (bM rfl rfl rfl (pE rfl (WO.nil (qs (W.seq (W.region (pE rfl (pE rfl (pE rfl (pu (ae rfl rfl rfl (mE _ _ ⟨fun _ _ => rfl, rfl⟩ _ (qy name) ab) rfl) rfl ?_))))))))))))
 refine pE rfl (WO.nil (qs (W.ret (QF.ar trivial rfl ?_))))
 rfl
theorem vD (t : bj) : aw Try.prog 10 [.ag t.c] (.d (.v (.int .i64 (bu t)))) 0 := by
 refine aw.a8 (n := 91) (ts := [2]) Try.func10 (by kernel_rfl) rfl Try.ntmps10 Try.results10 rfl rfl fun C hC hG => ?_
 refine W.seq (W.region (bM rfl rfl rfl (pE rfl (WO.nil (qs ?_)))))
 iterate 2 refine W.seq ?_
 apply aI; (case hb => rfl)
 ·
  refine pE rfl (pE rfl ?_)
  iterate 3 refine pE rfl ?_
  apply aC; (case hj => rfl); (case hl => rfl)
  ·
   iterate 4 refine ay rfl rfl rfl rfl ?_
   refine pE rfl (WO.nil (aA rfl rfl rfl))
  refine ah rfl rfl (pE rfl (ah rfl rfl (pE rfl (ah rfl rfl (pE rfl (ah rfl rfl ?_))))))
  iterate 2 refine pE rfl ?_
  refine WO.nil (aA rfl rfl rfl)
 refine qs (aq rfl (fun h20 => ?_) (fun h20 => ?_))
 ·
  refine W.seq (W.region (pE rfl (WO.nil (qs (W.ret (an (QF.ar trivial rfl ?_)))))))
  simp only [norm, az, List.length_map] at *; grind [bu]
 have h20 : ¬ (32 < t.ab.length ∨ 20000 < t.rows.length) := by simp only [List.length_map] at h20; intro h; revert h20; grind
 have hq : bu t = if ez t.ab 0 t.ab ≠ 0 then ez t.ab 0 t.ab else eP t.ab t.rows := by unfold bu; rw [if_neg h20]
 refine W.skip (qs ?_)
 iterate 2 refine W.seq ?_
 refine W.region (pE rfl (pE rfl ?_))
 iterate 2 refine pE rfl ?_
 refine WO.nil (qs (W.block (W.len (t := 22) rfl rfl (fun hlen => ?_))))
 try simp only [List.length_map, Ex.aF] at hlen
 refine W.aW (ι := {x : Nat // match x with | k => k ≤ t.ab.length ∧ ez t.ab k (t.ab.drop k) = ez t.ab 0 t.ab})
  (fun x => match x.1 with | k => [(1, .ptr 0 0), (24, .d (.v (.int .i64 ((k : Nat) : Int))))]) [(22, _), (23, _)]
  (fun x => match x.1 with | k => []) [(0, _)] [] 1 (fun x => match x.1 with | k => t.ab.length - k)
  [0] ⟨0, ?_⟩ rfl ?_ ⟨rfl, rfl, rfl, rfl, trivial⟩ ?_ ⟨rfl, rfl, trivial⟩ rfl ?_
 · exact ⟨Nat.zero_le _, rfl⟩
 · repeat' first | exact trivial | refine ⟨rfl, ?_⟩
 · repeat' exact trivial
 rintro ⟨k, hk, hI⟩
 show W _ _ _ _ _ ⟨[(1, .ptr 0 0), (24, .d (.v (.int .i64 ((k : Nat) : Int)))), (22, _), (23, _)], [(0, _)], [], 1⟩
 refine W.seq (W.region (pE rfl (WO.nil (qs (W.seq (bg (l := t.ab) (k := k) rfl (by simp [Ex.aF, aK]) hk (fun x hx hd hlt => ?_) (fun he hd => ?_)))))))
 ·
  rw [hd] at hI
  simp only [ez] at hI
  refine W.skip (qs (W.seq (W.block (W.seq (W.region (pE rfl (pu (indexAddr aa rfl rfl rfl rfl rfl rfl (Int.natCast_nonneg _) (aH hx) rfl) rfl ?_)))))))
  refine pE rfl (a9 aa rfl rfl rfl (pE rfl (aQ aa rfl rfl rfl rfl rfl rfl rfl rfl (WO.nil (qs ?_)))))
  iterate 2 refine W.seq ?_
  refine W.region (pE rfl (pE rfl (pu (ae rfl rfl rfl (xd ..) rfl) rfl ?_)))
  refine pE rfl (WO.nil (qs (W.seq (W.region ?_))))
  iterate 2 refine pE rfl ?_
  refine WO.nil (qs (aq rfl (fun h33 => ?_) (fun h33 => ?_)))
  ·
   have h33 : ec x.name ≠ 0 := by simpa using h33
   have hB : eS t.ab k x = ec x.name := by unfold eS; rw [if_pos h33]
   simp only [hB] at hI
   rw [if_pos h33] at hI
   refine W.seq (W.region ?_)
   iterate 2 refine pE rfl ?_
   refine WO.nil (qs (W.ret (an (au (an (bw (au (an (QF.ar trivial rfl ?_)))))))))
   simp only [norm, az, List.length_map] at *; grind [bu]
  have h33 : ¬ (ec x.name ≠ 0) := by simpa using h33
  refine W.skip (qs ?_)
  iterate 2 refine W.seq ?_
  refine W.bE aa (by kernel_rfl) ?_
  refine ao (ev aa rfl) rfl ?_
  refine ao (ev aa rfl) rfl ?_
  refine ao (ev aa rfl) rfl ?_
  refine ao (wA (fn := Col.c) aa rfl rfl rfl rfl rfl rfl (fun _ => rfl) (by omega)) rfl ?_
  refine ao (build aa rfl rfl rfl rfl) rfl ?_
  refine ao (ev aa rfl) rfl ?_
  refine ao (ev aa rfl) rfl ?_
  refine ao (ae rfl rfl rfl (v8 (t.ab.take k) _ x.name) rfl) rfl ?_
  refine ao (ev aa rfl) rfl ?_
  refine CH.nil ?_
  refine qs (aq rfl (fun h43 => ?_) (fun h43 => ?_))
  ·
   have h43 : ((t.ab.take k).any fun y => decide (y.name = x.name)) = true := dh.symm.trans h43
   have hB : eS t.ab k x = 4 := by unfold eS; rw [if_neg h33, if_pos h43]
   simp only [hB] at hI
   rw [if_pos (by decide)] at hI
   refine W.seq (W.region (pE rfl (WO.nil (qs (W.ret (an (au (an (bw (au (an (QF.ar trivial rfl ?_))))))))))))
   simp only [norm, az, List.length_map] at *; grind [bu]
  have h43 : ¬ (((t.ab.take k).any fun y => decide (y.name = x.name)) = true) := by rw [(dh.symm.trans h43 : ((t.ab.take k).any fun y => decide (y.name = x.name)) = false)]; decide
  refine W.skip (qs (W.seq ?_))
  apply aI; (case hb => rfl)
  ·
   refine pE rfl (pE rfl ?_)
   iterate 2 refine pE rfl ?_
   apply aC; (case hj => rfl); (case hl => rfl)
   ·
    refine ah rfl rfl (pE rfl (ah rfl rfl (pE rfl (ah rfl rfl ?_))))
    iterate 3 refine pE rfl ?_
    apply aC; (case hj => rfl); (case hl => rfl)
    ·
     refine ah rfl rfl (pE rfl (ah rfl rfl (pE rfl (ah rfl rfl ?_))))
     iterate 2 refine pE rfl ?_
     refine WO.nil (aA rfl rfl rfl)
    iterate 3 refine ay rfl rfl rfl rfl ?_
    refine pE rfl (WO.nil (aA rfl rfl rfl))
   iterate 3 refine ay rfl rfl rfl rfl ?_
   iterate 2 refine pE rfl ?_
   iterate 3 refine ay rfl rfl rfl rfl ?_
   refine pE rfl (WO.nil (aA rfl rfl rfl))
  refine qs (aq rfl (fun h56 => ?_) (fun h56 => ?_))
  ·
   have h56 : x.type ≠ 1 ∧ x.type ≠ 2 ∧ x.type ≠ 3 := by revert h56; grind
   have hB : eS t.ab k x = 14 := by unfold eS; rw [if_neg h33, if_neg h43, if_pos h56]
   simp only [hB] at hI
   rw [if_pos (by decide)] at hI
   refine W.seq (W.region (pE rfl (WO.nil (qs (W.ret (au (an (bw (au (an (QF.ar trivial rfl ?_)))))))))))
   simp only [norm, az, List.length_map] at *; grind [bu]
  have h56 : ¬ (x.type ≠ 1 ∧ x.type ≠ 2 ∧ x.type ≠ 3) := by revert h56; grind
  have hB : eS t.ab k x = 0 := by unfold eS; rw [if_neg h33, if_neg h43, if_neg h56]
  simp only [hB] at hI
  rw [if_neg (by decide)] at hI
  refine W.skip (a0 (qs (W.region ?_)))
  iterate 2 refine pE rfl ?_
  refine WO.nil (W.aY [0] ⟨k + 1, ?_⟩ ?_ rfl ?_ ⟨rfl, rfl, rfl, rfl, trivial⟩ ?_ ⟨rfl, rfl, trivial⟩ rfl)
  · exact ⟨hlt, by simpa using hI⟩
  · dsimp only; omega
  · repeat' first | exact trivial | refine ⟨rfl, ?_⟩ | refine ⟨aE (by assumption) (by assumption), ?_⟩
  repeat' exact trivial
 rw [hd] at hI
 simp only [ez] at hI
 rw [← hI] at hq
 simp only [ne_eq, not_true_eq_false, if_false] at hq
 refine W.exit (aN (aR (aO (qs ?_))))
 iterate 2 refine W.seq ?_
 refine W.region (pE rfl (pE rfl ?_))
 iterate 2 refine pE rfl ?_
 refine WO.nil (qs (W.block (W.len (t := 59) rfl rfl (fun hlen => ?_))))
 try simp only [List.length_map, Ex.aF] at hlen
 refine W.aW (ι := {x : Nat // match x with | k => k ≤ t.rows.length ∧ eP t.ab (t.rows.drop k) = eP t.ab t.rows})
  (fun x => match x.1 with | k => [(1, .ptr 0 0), (61, .d (.v (.int .i64 ((k : Nat) : Int))))]) [(59, _), (60, _)]
  (fun x => match x.1 with | k => []) [(0, _)] [] 1 (fun x => match x.1 with | k => t.rows.length - k)
  [0] ⟨0, ?_⟩ rfl ?_ ⟨rfl, rfl, rfl, rfl, trivial⟩ ?_ ⟨rfl, rfl, trivial⟩ rfl ?_
 · exact ⟨Nat.zero_le _, rfl⟩
 · repeat' first | exact trivial | refine ⟨rfl, ?_⟩
 · repeat' exact trivial
 rintro ⟨k, hk, hK⟩
 show W _ _ _ _ _ ⟨[(1, .ptr 0 0), (61, .d (.v (.int .i64 ((k : Nat) : Int)))), (59, _), (60, _)], [(0, _)], [], 1⟩
 refine W.seq (W.region (pE rfl (WO.nil (qs (W.seq (bg (l := t.rows) (k := k) rfl (by simp [Ex.aF, aK]) hk (fun r hx hd hlt => ?_) (fun he hd => ?_)))))))
 ·
  rw [hd] at hK
  simp only [eP] at hK
  refine W.skip (qs (W.seq (W.block (W.seq (W.region (pu (indexAddr aa rfl rfl rfl rfl rfl rfl (Int.natCast_nonneg _) (aH hx) rfl) rfl ?_))))))
  refine pE rfl (pE rfl (WO.nil (qs ?_)))
  iterate 2 refine W.seq ?_
  refine W.region ?_
  iterate 3 refine pE rfl ?_
  refine pE rfl ?_
  iterate 2 refine pE rfl ?_
  refine WO.nil (qs (aq rfl (fun h70 => ?_) (fun h70 => ?_)))
  ·
   have h70 : r.length ≠ t.ab.length := by simp at h70; omega
   rw [if_pos h70] at hK
   refine W.seq (W.region (pE rfl (WO.nil (qs (W.ret (an (au (an (bw (au (an (QF.ar trivial rfl ?_))))))))))))
   simp only [norm, az, List.length_map] at *; grind [bu]
  have h70 : ¬ (r.length ≠ t.ab.length) := by simp at h70 ⊢; omega
  rw [if_neg h70] at hK
  refine W.skip (qs (W.seq (W.region ?_)))
  iterate 3 refine pE rfl ?_
  refine WO.nil (qs (W.block (W.len (t := 71) rfl rfl (fun hlen => ?_))))
  try simp only [List.length_map, Ex.aF] at hlen
  refine W.aW (ι := {x : Nat // match x with | j => j ≤ r.length ∧ dq (t.ab.drop j) (r.drop j) = dq t.ab r})
   (fun x => match x.1 with | j => [(1, .ptr 0 0), (73, .d (.v (.int .i64 ((j : Nat) : Int))))]) [(59, _), (60, _), (61, _), (71, _), (72, _)]
   (fun x => match x.1 with | j => []) [(0, _)] [] 1 (fun x => match x.1 with | j => r.length - j)
   [0] ⟨0, ?_⟩ rfl ?_ ⟨rfl, rfl, rfl, rfl, rfl, rfl, rfl, rfl, rfl, rfl, trivial⟩ ?_ ⟨rfl, rfl, trivial⟩ rfl ?_
  · exact ⟨Nat.zero_le _, rfl⟩
  · repeat' first | exact trivial | refine ⟨rfl, ?_⟩
  · repeat' exact trivial
  rintro ⟨j, hk, hJ⟩
  show W _ _ _ _ _ ⟨[(1, .ptr 0 0), (73, .d (.v (.int .i64 ((j : Nat) : Int)))), (59, _), (60, _), (61, _), (71, _), (72, _)], [(0, _)], [], 1⟩
  refine W.seq (W.region (pE rfl (WO.nil (qs (W.seq (bg (l := r) (k := j) rfl (by simp [Ex.aF, aK]) hk (fun v hx hd hlt => ?_) (fun he hd => ?_)))))))
  ·
   obtain ⟨c, hc, hcd⟩ := yO (l := t.ab) (k := j) (by omega)
   rw [hd, hcd] at hJ
   simp only [dq] at hJ
   refine W.skip (qs (W.seq (W.block (W.seq (W.region (pE rfl (pu (indexAddr aa rfl rfl rfl rfl rfl rfl (Int.natCast_nonneg _) (aH hx) rfl) rfl ?_)))))))
   refine pE rfl (a9 aa rfl rfl rfl (pE rfl (aQ aa rfl rfl rfl rfl rfl rfl rfl rfl (WO.nil (qs (W.seq (W.bE aa (by kernel_rfl) ?_)))))))
   refine ao (ev aa rfl) rfl ?_
   refine ao (ev aa rfl) rfl ?_
   refine ao (ev aa rfl) rfl ?_
   refine ao (indexAddr aa rfl rfl rfl rfl rfl rfl (Int.natCast_nonneg _) (aH hc) rfl) rfl ?_
   refine ao (ev aa rfl) rfl ?_
   refine ao (ev aa rfl) rfl ?_
   refine ao (ev aa rfl) rfl ?_
   refine ao (ae rfl rfl rfl (rz c.type v) rfl) rfl ?_
   refine ao (ev aa rfl) rfl ?_
   refine CH.nil ?_
   refine qs (W.seq (W.region ?_))
   iterate 2 refine pE rfl ?_
   refine WO.nil (qs (aq rfl (fun h87 => ?_) (fun h87 => ?_)))
   ·
    have h87 : bU c.type v ≠ 0 := by simpa using h87
    rw [if_pos h87] at hJ
    simp only [← hJ] at hK
    rw [if_pos h87] at hK
    refine W.seq (W.region ?_)
    iterate 2 refine pE rfl ?_
    refine WO.nil (qs (W.ret (au (an (bw (au (au (an (bw (au (an (QF.ar trivial rfl ?_))))))))))))
    simp only [norm, az, List.length_map] at *; grind [bu]
   rw [if_neg (by simpa using h87)] at hJ
   refine W.skip (a0 (qs (W.region ?_)))
   iterate 2 refine pE rfl ?_
   refine WO.nil (W.aY [0] ⟨j + 1, ?_⟩ ?_ rfl ?_ ⟨rfl, rfl, rfl, rfl, rfl, rfl, rfl, rfl, rfl, rfl, trivial⟩ ?_ ⟨rfl, rfl, trivial⟩ rfl)
   · exact ⟨hlt, hJ⟩
   · dsimp only; omega
   · repeat' first | exact trivial | refine ⟨rfl, ?_⟩ | refine ⟨aE (by assumption) (by assumption), ?_⟩
   repeat' exact trivial
  have hj0 : dq t.ab r = 0 := by rw [← hJ, hd]; cases t.ab.drop j <;> rfl
  simp only [hj0] at hK
  rw [if_neg (by decide)] at hK
  refine W.exit (aN (aR (aO (a0 (qs (W.region ?_))))))
  iterate 2 refine pE rfl ?_
  refine WO.nil (W.aY [0] ⟨k + 1, ?_⟩ ?_ rfl ?_ ⟨rfl, rfl, rfl, rfl, trivial⟩ ?_ ⟨rfl, rfl, trivial⟩ rfl)
  · exact ⟨hlt, hK⟩
  · dsimp only; omega
  · repeat' first | exact trivial | refine ⟨rfl, ?_⟩ | refine ⟨aE (by assumption) (by assumption), ?_⟩
  repeat' exact trivial
 rw [hd] at hK
 simp only [eP] at hK
 rw [← hK] at hq
 refine W.exit (aN (aR (aO (qs (W.seq (W.region (pE rfl (WO.nil (qs (W.ret (QF.ar trivial rfl ?_)))))))))))
 simp only [norm, az, List.length_map] at *; grind [bu]
end Go.Proofs.Ytjenenllmjlimaa
namespace Go.Proofs.Ytjenenllmjlimaa
open Go.Ab Go.Tb
set_option maxRecDepth 10000
attribute [local irreducible] W WO Pu QS QB QL QF QV bO CH QE
theorem j0 (l : List Col) (h : l.length ≤ 100000) : aw Try.prog 60 [.d (.sl (l.map Col.c))] (.own 0 (l.map Col.c)) 1 := by
 refine aw.a8 (n := 8) (ts := [2]) Try.func60 (by kernel_rfl) rfl Try.ntmps60 Try.results60 rfl rfl fun C hC hG => ?_
 refine W.seq (W.region (pE rfl (WO.nil (qs ?_))))
 iterate 2 refine W.seq ?_
 refine W.region (pE rfl (lz aa rfl rfl rfl rfl rfl (fun b4 hb4 => ?_)))
 refine WO.nil (qs (aq rfl (fun h4 => ?_) (fun h4 => ?_)))
 ·
  refine W.seq (W.region (pE rfl (WO.nil (qs ?_))))
  try refine aU (d := 2) rfl rfl ?_
  refine W.ret (an (QF.mV 0 trivial rfl (by simp) ?_))
  have hl0 := hb4 h4
  rw [hl0]; rfl
 refine W.skip (qs (W.seq (W.region (re aa rfl rfl rfl rfl rfl rfl rfl rfl (by rfl) ?_))))
 refine pE rfl (fW (l := []) (fn := Col.c) aa rfl rfl rfl rfl rfl rfl rfl rfl rfl rfl (fun _ => rfl) (by show (0 + l.length) * 24 ≤ _; omega) ?_)
 refine pE rfl (WO.nil (qs ?_))
 try refine aU (d := 2) rfl rfl ?_
 refine W.ret (QF.mV 1 trivial rfl (by simp) ?_)
 rfl
theorem qd (ab : List Col) (names : List ByteArray) (h : names.length ≤ 100000) : aw Try.prog 79 [.d (.sl (ab.map Col.c)), .d (.sl (names.map sc))]
  (.tup [.own 0 ((bX ab [] names).1.map Col.c), .d (.v (.int .i64 (bX ab [] names).2))]) 1 := by
 refine aw.a8 (n := 30) (ts := [4, 5]) Try.func79 (by kernel_rfl) rfl Try.ntmps79 Try.results79 rfl rfl fun C hC hG => ?_
 refine W.seq (W.region ?_)
 iterate 2 refine pE rfl ?_
 refine WO.nil (qs (W.seq (W.region (pE rfl (WO.nil (qs ?_))))))
 iterate 2 refine W.seq ?_
 refine W.region ?_
 iterate 3 refine pE rfl ?_
 refine WO.nil (qs (W.block (aU (d := 6) rfl rfl ?_)))
 refine W.len (t := 10) rfl rfl (fun hlen => ?_)
 try simp only [List.length_map, Ex.aF] at hlen
 refine W.aW (ι := {x : Nat × List Col // match x with | (k, out) => k ≤ names.length ∧ bX ab out (names.drop k) = bX ab [] names ∧ out.length = k})
  (fun x => match x.1 with | (k, out) => [(6, .own 0 (out.map Col.c)), (12, .d (.v (.int .i64 ((k : Nat) : Int))))]) [(0, _), (10, _), (11, _)]
  (fun x => match x.1 with | (k, out) => []) [] [0] 1 (fun x => match x.1 with | (k, out) => names.length - k)
  [0] ⟨(0, []), ?_⟩ rfl ?_ ⟨rfl, rfl, rfl, rfl, rfl, rfl, trivial⟩ ?_ trivial rfl ?_
 · exact ⟨Nat.zero_le _, rfl, rfl⟩
 · repeat' first | exact trivial | refine ⟨rfl, ?_⟩
 · repeat' exact trivial
 rintro ⟨⟨k, out⟩, hk, hI, hL⟩
 show W _ _ _ _ _ ⟨[(6, .own 0 (out.map Col.c)), (12, .d (.v (.int .i64 ((k : Nat) : Int)))), (0, _), (10, _), (11, _)], [], [0], 1⟩
 refine W.seq (W.region (pE rfl (WO.nil (qs (W.seq (bg (l := names) (k := k) rfl (by simp [Ex.aF, aK]) hk (fun x hx hd hlt => ?_) (fun he hd => ?_)))))))
 ·
  rw [hd] at hI
  simp only [bX] at hI
  refine W.skip (qs (W.seq (W.block (W.seq (W.region (pu (indexAddr aa rfl rfl rfl rfl rfl rfl (Int.natCast_nonneg _) (aH hx) rfl) rfl ?_))))))
  refine pE rfl (pE rfl (WO.nil (qs (W.seq (W.region ?_)))))
  iterate 2 refine pE rfl ?_
  refine pu (ae rfl rfl rfl (fM ..) rfl) rfl ?_
  refine pE rfl (WO.nil (qs ?_))
  iterate 2 refine W.seq ?_
  refine W.region ?_
  iterate 2 refine pE rfl ?_
  refine WO.nil (qs (aq rfl (fun h20 => ?_) (fun h20 => ?_)))
  ·
   have h5 : aV ab x = none := jq (of_decide_eq_true h20)
   rw [h5] at hI
   refine W.seq (W.region ?_)
   iterate 2 refine pE rfl ?_
   refine WO.nil (qs ?_)
   try refine aU (d := 4) rfl rfl ?_
   refine W.ret (an (au (an (bw (au (an (QF.mV 1 trivial rfl (by simp) ?_)))))))
   rw [← hI]; rfl
  obtain ⟨i, c, h3, h4, h5, h6⟩ := jk (of_decide_eq_false h20)
  have h5 : aV ab x = some c := h5
  rw [h5] at hI
  refine W.skip (qs (W.region ?_))
  iterate 3 refine pE rfl ?_
  refine pu (indexAddr aa rfl rfl rfl rfl rfl rfl (i := idx _) (by rw [h3]; exact Int.natCast_nonneg _) (by rw [h3]; exact aH h4) rfl) rfl ?_
  refine pE rfl (pu (aG aa rfl rfl rfl rfl rfl rfl rfl rfl rfl) rfl ?_)
  refine ck (fn := Col.c) (a := c) aa rfl rfl rfl rfl rfl rfl rfl rfl rfl rfl (fun _ => rfl) (by show (out.length + 1) * 24 ≤ _; omega) ?_
  refine pE rfl (WO.nil (a0 (qs (W.region ?_))))
  iterate 2 refine pE rfl ?_
  refine WO.nil (W.aY [1] ⟨(k + 1, out ++ [c]), ?_⟩ ?_ rfl ?_ ⟨rfl, rfl, rfl, rfl, rfl, rfl, trivial⟩ ?_ trivial rfl)
  · exact ⟨hlt, hI, by simp [hL]⟩
  · dsimp only; omega
  · repeat' first | exact trivial | refine ⟨rfl, ?_⟩ | refine ⟨aE (by assumption) (by assumption), ?_⟩
  repeat' exact trivial
 rw [hd] at hI
 simp only [bX] at hI
 refine W.exit (aN (aR (aO (qs (W.seq (W.region ?_))))))
 iterate 3 refine pE rfl ?_
 refine WO.nil (qs ?_)
 try refine aU (d := 4) rfl rfl ?_
 refine W.ret (QF.mV 0 trivial rfl (by simp) ?_)
 rw [← hI]; rfl
theorem pd (ab : List Col) (name : ByteArray) : aw Try.prog 81 [.d (.sl (ab.map Col.c)), .d (.v (.string name))] (.d (.v (.int .i64 (cH ab name)))) 0 := by
 refine aw.a8 (n := 19) (ts := [4]) Try.func81 (by kernel_rfl) rfl Try.ntmps81 Try.results81 rfl rfl fun C hC hG => ?_
 refine W.seq (W.region (pE rfl (WO.nil (qs (W.seq (W.region ?_))))))
 iterate 2 refine pE rfl ?_
 refine pu (ae rfl rfl rfl (fM ..) rfl) rfl ?_
 refine pE rfl (WO.nil (qs (W.seq (W.block (W.seq (W.region ?_))))))
 iterate 3 refine pE rfl ?_
 refine WO.nil (qs (aq rfl (fun h9 => ?_) (fun h9 => ?_)))
 ·
  have h5 : aV ab name = none := jq (of_decide_eq_true h9)
  refine W.seq (W.region (pE rfl (WO.nil (qs (W.ret (au (an (QF.ar trivial rfl ?_))))))))
  simp only [norm, az, cH, h5] <;> simp_all
 obtain ⟨i, c, h3, h4, h5, h6⟩ := jk (of_decide_eq_false h9)
 have h5 : aV ab name = some c := h5
 refine W.seq (W.region ?_)
 iterate 2 refine pE rfl ?_
 refine pu (indexAddr aa rfl rfl rfl rfl rfl rfl (i := idx _) (by rw [h3]; exact Int.natCast_nonneg _) (by rw [h3]; exact aH h4) rfl) rfl ?_
 refine pE rfl (pE rfl ?_)
 iterate 2 refine pE rfl ?_
 refine WO.nil (qs (aq rfl (fun h12 => ?_) (fun h12 => ?_)))
 ·
  refine W.seq (W.region (pE rfl (WO.nil (qs (W.ret (au (an (QF.ar trivial rfl ?_))))))))
  simp only [norm, az, cH, h5] <;> simp_all
 refine W.skip (a0 (qs (W.seq (W.region (pE rfl (WO.nil (qs (W.ret (QF.ar trivial rfl ?_)))))))))
 simp only [norm, az, cH, h5] <;> simp_all
theorem sv (ab : List Col) (l : List mW) (h : l.length ≤ 100000) (hv : ∀ x ∈ l, db x.e = 0) : aw Try.prog 55 [.d (.sl (ab.map Col.c)), .d (.sl (l.map mW.c))]
  (.tup [.d (.sl ((mI ab [] l).1.map Col.c)), .d (.v (.int .i64 (mI ab [] l).2))]) 0 := by
 refine aw.a8 (n := 38) (ts := [4, 5]) Try.func55 (by kernel_rfl) rfl Try.ntmps55 Try.results55 rfl rfl fun C hC hG => ?_
 refine W.seq (W.region ?_)
 iterate 2 refine pE rfl ?_
 refine WO.nil (qs (W.seq (W.region (pE rfl (WO.nil (qs ?_))))))
 iterate 2 refine W.seq ?_
 refine W.region ?_
 iterate 3 refine pE rfl ?_
 refine WO.nil (qs (W.block (aU (d := 6) rfl rfl ?_)))
 refine W.len (t := 11) rfl rfl (fun hlen => ?_)
 try simp only [List.length_map, Ex.aF] at hlen
 refine W.aW (ι := {x : Nat × List Col // match x with | (k, out) => k ≤ l.length ∧ mI ab out (l.drop k) = mI ab [] l ∧ out.length = k})
  (fun x => match x.1 with | (k, out) => [(6, .own 0 (out.map Col.c)), (13, .d (.v (.int .i64 ((k : Nat) : Int))))]) [(0, _), (11, _), (12, _)]
  (fun x => match x.1 with | (k, out) => []) [] [0] 1 (fun x => match x.1 with | (k, out) => l.length - k)
  [0] ⟨(0, []), ?_⟩ rfl ?_ ⟨rfl, rfl, rfl, rfl, rfl, rfl, trivial⟩ ?_ trivial rfl ?_
 · exact ⟨Nat.zero_le _, rfl, rfl⟩
 · repeat' first | exact trivial | refine ⟨rfl, ?_⟩
 · repeat' exact trivial
 rintro ⟨⟨k, out⟩, hk, hI, hL⟩
 show W _ _ _ _ _ ⟨[(6, .own 0 (out.map Col.c)), (13, .d (.v (.int .i64 ((k : Nat) : Int)))), (0, _), (11, _), (12, _)], [], [0], 1⟩
 refine W.seq (W.region (pE rfl (WO.nil (qs (W.seq (bg (l := l) (k := k) rfl (by simp [Ex.aF, aK]) hk (fun x hx hd hlt => ?_) (fun he hd => ?_)))))))
 ·
  rw [hd] at hI
  simp only [mI] at hI
  refine W.skip (qs (W.seq (W.block (W.seq (W.region (pu (indexAddr aa rfl rfl rfl rfl rfl rfl (Int.natCast_nonneg _) (aH hx) rfl) rfl ?_))))))
  refine pE rfl (a9 aa rfl rfl rfl (aQ aa rfl rfl rfl rfl rfl rfl rfl rfl (WO.nil (qs (W.seq (W.region ?_))))))
  iterate 2 refine pE rfl ?_
  refine pE rfl (pu (ae rfl rfl rfl (rJ ab x.e (hv x (List.mem_of_getElem? hx))) rfl) rfl ?_)
  iterate 5 refine pE rfl ?_
  refine WO.nil (qs ?_)
  iterate 2 refine W.seq ?_
  refine W.region ?_
  iterate 2 refine pE rfl ?_
  refine WO.nil (qs (aq rfl (fun h25 => ?_) (fun h25 => ?_)))
  ·
   rw [if_pos (by simpa using h25)] at hI
   refine W.seq (W.region ?_)
   iterate 3 refine pE rfl ?_
   refine WO.nil (qs ?_)
   try refine aU (d := 4) rfl rfl ?_
   refine W.ret (an (au (an (bw (au (an (QF.ar trivial rfl ?_)))))))
   rw [← hI]; rfl
  rw [if_neg (by simpa using h25)] at hI
  refine W.skip (qs ?_)
  iterate 2 refine W.seq ?_
  refine W.region ?_
  iterate 2 refine pE rfl ?_
  refine WO.nil (qs (aq rfl (fun h28 => ?_) (fun h28 => ?_)))
  ·
   rw [if_pos (by simpa using h28)] at hI
   refine W.seq (W.region ?_)
   iterate 2 refine pE rfl ?_
   refine WO.nil (qs ?_)
   try refine aU (d := 4) rfl rfl ?_
   refine W.ret (an (au (an (bw (au (an (QF.ar trivial rfl ?_)))))))
   rw [← hI]; rfl
  rw [if_neg (by simpa using h28)] at hI
  refine W.skip (qs (W.region ?_))
  iterate 2 refine pE rfl ?_
  refine pE rfl (pE rfl (pu (build aa rfl rfl rfl rfl) rfl ?_))
  refine pu (aG aa rfl rfl rfl rfl rfl rfl rfl rfl rfl) rfl ?_
  refine ck (fn := Col.c) (a := ⟨x.name, (eX ab x.e).1⟩) aa rfl rfl rfl rfl rfl rfl rfl rfl rfl rfl (fun _ => rfl) (by show (out.length + 1) * 24 ≤ _; omega) ?_
  refine pE rfl (WO.nil (a0 (qs (W.region ?_))))
  iterate 2 refine pE rfl ?_
  refine WO.nil (W.aY [2] ⟨(k + 1, out ++ [⟨x.name, (eX ab x.e).1⟩]), ?_⟩ ?_ rfl ?_ ⟨rfl, rfl, rfl, rfl, rfl, rfl, trivial⟩ ?_ trivial rfl)
  · exact ⟨hlt, hI, by simp [hL]⟩
  · dsimp only; omega
  · repeat' first | exact trivial | refine ⟨rfl, ?_⟩ | refine ⟨aE (by assumption) (by assumption), ?_⟩
  repeat' exact trivial
 rw [hd] at hI
 simp only [mI] at hI
 refine W.exit (aN (aR (aO (qs (W.seq (W.region ?_))))))
 iterate 3 refine pE rfl ?_
 refine WO.nil (qs ?_)
 try refine aU (d := 4) rfl rfl ?_
 refine W.ret (QF.ar trivial rfl ?_)
 rw [← hI]; rfl
end Go.Proofs.Ytjenenllmjlimaa
namespace Go.Proofs.Ytjenenllmjlimaa
open Go.Ab Go.Tb
set_option maxRecDepth 10000
attribute [local irreducible] W WO Pu QS QB QL QF QV bO CH QE
theorem l8 (ab : List Col) : ∀ (names : List ByteArray) (out : List Col), (bX ab out names).1.length ≤ out.length + names.length
 | [], out => by simp [bX]
 | s :: r, out => by
  simp only [bX]
  split
  · simp
  have := l8 ab r (out ++ [‹Col›]); simp at this ⊢; omega
theorem yr (ab : List Col) (s : ByteArray) : bX ab [] [s] = (match aV ab s with | none => ([], 16) | some c => ([c], 0)) := by
 cases h : aV ab s <;> simp [bX, h]
theorem uw (ab : List Col) (s : fx) (h1 : s.ab.length ≤ 1000) (h2 : s.aggs.length ≤ 1000) : aw Try.prog 56 [.d (.sl (ab.map Col.c)), .ag s.c]
  (.tup [.d (.sl ((k9 ab s).1.map Col.c)), .d (.v (.int .i64 (k9 ab s).2))]) 0 := by
 have htl := l8 ab s.ab []
 have hg : k9 ab s = k9 ab s := rfl
 conv at hg => rhs; unfold k9
 refine aw.a8 (n := 68) (ts := [4, 5]) Try.func56 (by kernel_rfl) rfl Try.ntmps56 Try.results56 rfl rfl fun C hC hG => ?_
 refine W.seq (W.region (bM rfl rfl rfl ?_))
 iterate 2 refine pE rfl ?_
 refine WO.nil (qs (W.seq (W.region ?_)))
 iterate 2 refine pE rfl ?_
 refine pE rfl (fF rfl rfl rfl (qd ab s.ab (by omega)) (by rfl) rfl rfl ?_)
 iterate 5 refine pE rfl ?_
 refine WO.nil (qs ?_)
 iterate 2 refine W.seq ?_
 refine W.region ?_
 iterate 2 refine pE rfl ?_
 refine WO.nil (qs (aq rfl (fun h21 => ?_) (fun h21 => ?_)))
 ·
  rw [if_pos (by simpa using h21)] at hg
  refine W.seq (W.region ?_)
  iterate 3 refine pE rfl ?_
  refine WO.nil (qs ?_)
  try refine aU (d := 4) rfl rfl ?_
  refine W.ret (an (QF.ar trivial rfl ?_))
  rw [hg]; rfl
 rw [if_neg (by simpa using h21)] at hg
 refine W.skip (qs ?_)
 iterate 2 refine W.seq ?_
 refine W.region (pE rfl (pE rfl ?_))
 iterate 2 refine pE rfl ?_
 refine WO.nil (qs (W.block (W.len (t := 24) rfl rfl (fun hlen => ?_))))
 try simp only [List.length_map, Ex.aF] at hlen
 refine W.aW (ι := {x : Nat × List Col // match x with | (k, out) => k ≤ s.aggs.length ∧ oh ab out (s.aggs.drop k) = oh ab (bX ab [] s.ab).1 s.aggs ∧ out.length ≤ 1000 + k})
  (fun x => match x.1 with | (k, out) => [(6, .own 0 (out.map Col.c)), (26, .d (.v (.int .i64 ((k : Nat) : Int))))]) [(0, _), (24, _), (25, _)]
  (fun x => match x.1 with | (k, out) => []) [] [0] 1 (fun x => match x.1 with | (k, out) => s.aggs.length - k)
  [1] ⟨(0, (bX ab [] s.ab).1), ?_⟩ rfl ?_ ⟨rfl, rfl, rfl, rfl, rfl, rfl, trivial⟩ ?_ trivial rfl ?_
 · exact ⟨Nat.zero_le _, rfl, by simp at htl; omega⟩
 · repeat' first | exact trivial | refine ⟨rfl, ?_⟩
 · repeat' exact trivial
 rintro ⟨⟨k, out⟩, hk, hI, hL⟩
 show W _ _ _ _ _ ⟨[(6, .own 0 (out.map Col.c)), (26, .d (.v (.int .i64 ((k : Nat) : Int)))), (0, _), (24, _), (25, _)], [], [0], 1⟩
 refine W.seq (W.region (pE rfl (WO.nil (qs (W.seq (bg (l := s.aggs) (k := k) rfl (by simp [Ex.aF, aK]) hk (fun x hx hd hlt => ?_) (fun he hd => ?_)))))))
 ·
  rw [hd] at hI
  simp only [oh] at hI
  refine W.skip (qs (W.seq (W.block (W.seq (W.region (pu (indexAddr aa rfl rfl rfl rfl rfl rfl (Int.natCast_nonneg _) (aH hx) rfl) rfl ?_))))))
  refine pE rfl (a9 aa rfl rfl rfl (aQ aa rfl rfl rfl rfl rfl rfl rfl rfl (WO.nil (qs (W.seq (W.region (pE rfl (pE rfl (pu (build aa rfl rfl rfl rfl) rfl ?_)))))))))
  refine a9 aa rfl rfl rfl (aQ aa rfl rfl rfl rfl rfl rfl rfl rfl (WO.nil (qs ?_)))
  iterate 2 refine W.seq ?_
  refine W.region (pE rfl (pE rfl (pE rfl (WO.nil (qs (aq rfl (fun h35 => ?_) (fun h35 => ?_)))))))
  ·
   have h35 : ¬ (x.fn = jm) := by simpa [jm] using h35
   rw [if_neg h35] at hI
   have ht1 := yr ab x.col
   refine W.seq (W.region ?_)
   iterate 2 refine pE rfl ?_
   refine pE rfl (pu (aG aa rfl rfl rfl rfl rfl rfl rfl rfl rfl) rfl ?_)
   refine fF rfl rfl rfl (qd ab [x.col] (by simp)) (by rfl) rfl rfl ?_
   iterate 5 refine pE rfl ?_
   refine WO.nil (qs ?_)
   iterate 2 refine W.seq ?_
   refine W.region ?_
   iterate 2 refine pE rfl ?_
   refine WO.nil (qs (aq rfl (fun h45 => ?_) (fun h45 => ?_)))
   ·
    have h5 : aV ab x.col = none := by cases hf : aV ab x.col with | none => rfl | some c => rw [hf] at ht1; rw [ht1] at h45; simp at h45
    rw [h5] at hI ht1
    rw [ht1]
    refine W.seq (W.region ?_)
    iterate 3 refine pE rfl ?_
    refine WO.nil (qs ?_)
    try refine aU (d := 4) rfl rfl ?_
    refine W.ret (an (an (au (an (bw (au (an (QF.ar trivial rfl ?_))))))))
    rw [hg, ← hI]; rfl
   obtain ⟨c, h5⟩ : ∃ c, aV ab x.col = some c := by cases hf : aV ab x.col with | none => rw [hf] at ht1; rw [ht1] at h45; simp at h45 | some c => exact ⟨c, rfl⟩
   rw [h5] at hI ht1
   simp only at hI
   rw [ht1]
   refine W.skip (qs ?_)
   iterate 2 refine W.seq ?_
   apply aI; (case hb => rfl)
   ·
    refine pE rfl (pE rfl ?_)
    iterate 2 refine pE rfl ?_
    apply aC; (case hj => rfl); (case hl => rfl)
    ·
     refine ah rfl rfl (pE rfl (ah rfl rfl (pu (indexAddr aa rfl rfl rfl rfl rfl rfl (i := 0) (by omega) (show ([c].map Col.c)[((0 : Int)).toNat]? = some c.c from rfl) rfl) rfl ?_)))
     refine ah rfl rfl (pE rfl (ah rfl rfl (pE rfl (ah rfl rfl ?_))))
     iterate 2 refine pE rfl ?_
     refine WO.nil (aA rfl rfl rfl)
    iterate 5 refine ay rfl rfl rfl rfl ?_
    refine pE rfl (WO.nil (aA rfl rfl rfl))
   refine qs (aq rfl (fun h56 => ?_) (fun h56 => ?_))
   ·
    have h56 : x.fn = nU ∧ c.type ≠ 2 := by revert h56; simp only [nU]; by_cases q : x.fn = B #[115, 117, 109] <;> simp [q]
    rw [if_pos h56] at hI
    refine W.seq (W.region ?_)
    iterate 2 refine pE rfl ?_
    refine WO.nil (qs ?_)
    try refine aU (d := 4) rfl rfl ?_
    refine W.ret (an (an (au (an (bw (au (an (QF.ar trivial rfl ?_))))))))
    rw [hg, ← hI]; rfl
   have h56 : ¬ (x.fn = nU ∧ c.type ≠ 2) := by revert h56; simp only [nU]; by_cases q : x.fn = B #[115, 117, 109] <;> simp [q]
   rw [if_neg h56] at hI
   refine W.skip (qs (W.region (pE rfl (pu (indexAddr aa rfl rfl rfl rfl rfl rfl (i := 0) (by omega) (show ([c].map Col.c)[((0 : Int)).toNat]? = some c.c from rfl) rfl) rfl ?_))))
   refine pE rfl (pE rfl (pE rfl (aQ aa rfl rfl rfl rfl rfl rfl rfl rfl (WO.nil (qs (W.region (pE rfl (pE rfl (pu (aG aa rfl rfl rfl rfl rfl rfl rfl rfl rfl) rfl ?_)))))))))
   refine ck (fn := Col.c) (a := ⟨x.name, c.type⟩) aa rfl rfl rfl rfl rfl rfl rfl rfl rfl rfl (fun _ => rfl) (by show (out.length + 1) * 24 ≤ _; omega) ?_
   refine pE rfl (WO.nil (a0 (qs (W.region ?_))))
   iterate 2 refine pE rfl ?_
   refine WO.nil (W.aY [4] ⟨(k + 1, out ++ [⟨x.name, c.type⟩]), ?_⟩ ?_ rfl ?_ ⟨rfl, rfl, rfl, rfl, rfl, rfl, trivial⟩ ?_ trivial rfl)
   · exact ⟨hlt, hI, by simp; omega⟩
   · dsimp only; omega
   · repeat' first | exact trivial | refine ⟨rfl, ?_⟩ | refine ⟨aE (by assumption) (by assumption), ?_⟩
   repeat' exact trivial
  have h35 : x.fn = jm := by simpa [jm] using h35
  rw [if_pos h35] at hI
  refine W.skip (qs (W.region (pE rfl (pE rfl (pu (aG aa rfl rfl rfl rfl rfl rfl rfl rfl rfl) rfl ?_)))))
  refine ck (fn := Col.c) (a := ⟨x.name, 2⟩) aa rfl rfl rfl rfl rfl rfl rfl rfl rfl rfl (fun _ => rfl) (by show (out.length + 1) * 24 ≤ _; omega) ?_
  refine pE rfl (WO.nil (a0 (qs (W.region ?_))))
  iterate 2 refine pE rfl ?_
  refine WO.nil (W.aY [3] ⟨(k + 1, out ++ [⟨x.name, 2⟩]), ?_⟩ ?_ rfl ?_ ⟨rfl, rfl, rfl, rfl, rfl, rfl, trivial⟩ ?_ trivial rfl)
  · exact ⟨hlt, hI, by simp; omega⟩
  · dsimp only; omega
  · repeat' first | exact trivial | refine ⟨rfl, ?_⟩ | refine ⟨aE (by assumption) (by assumption), ?_⟩
  repeat' exact trivial
 rw [hd] at hI
 simp only [oh] at hI
 refine W.exit (aN (aR (aO (qs (W.seq (W.region ?_))))))
 iterate 3 refine pE rfl ?_
 refine WO.nil (qs ?_)
 try refine aU (d := 4) rfl rfl ?_
 refine W.ret (QF.ar trivial rfl ?_)
 rw [hg, ← hI]; rfl
end Go.Proofs.Ytjenenllmjlimaa
namespace Go.Proofs.Ytjenenllmjlimaa
open Go.Ab Go.Tb
set_option maxRecDepth 10000
attribute [local irreducible] W WO Pu QS QB QL QF QV bO CH QE
def n9 (ab : List Col) : List Col → List ByteArray → CT
 | out, [] => (out, 0)
 | out, s :: r => if cH ab s ≠ 0 then ([], cH ab s) else n9 ab (out ++ [⟨s, 2⟩]) r
theorem vT (ab : List Col) (s : fx) (h : ¬ ((s.ab.any (fun x => decide (aJ = x)) || s.ab.any (fun x => decide (br = x))) = true)) (h2 : (bX ab [] s.ab).2 = 0) : gg ab s = n9 ab (bX ab [] s.ab).1 [aJ, br] := by
 unfold gg
 rw [if_neg h, if_neg (by simp [h2])]
 simp only [n9]
 by_cases h3 : cH ab aJ = 0 <;> by_cases h4 : cH ab br = 0 <;> simp [h3, h4]
theorem sg (ab : List Col) (s : fx) (h1 : s.ab.length ≤ 1000) : aw Try.prog 58 [.d (.sl (ab.map Col.c)), .ag s.c]
  (.tup [.d (.sl ((gg ab s).1.map Col.c)), .d (.v (.int .i64 (gg ab s).2))]) 0 := by
 have htl := l8 ab s.ab []
 refine aw.a8 (n := 48) (ts := [4, 5]) Try.func58 (by kernel_rfl) rfl Try.ntmps58 Try.results58 rfl rfl fun C hC hG => ?_
 refine W.seq (W.region (bM rfl rfl rfl ?_))
 iterate 2 refine pE rfl ?_
 refine WO.nil (qs ?_)
 iterate 2 refine W.seq ?_
 apply aI; (case hb => rfl)
 ·
  refine pE rfl (pE rfl (pu (ae rfl rfl rfl (dF s.ab aJ) rfl) rfl ?_))
  refine pE rfl ?_
  apply aC; (case hj => rfl); (case hl => rfl)
  ·
   iterate 3 refine ay rfl rfl rfl rfl ?_
   refine pE rfl (WO.nil (aA rfl rfl rfl))
  refine ah rfl rfl (pE rfl (ah rfl rfl (pE rfl (ah rfl rfl (pu (ae rfl rfl rfl (dF s.ab br) rfl) rfl ?_)))))
  refine pE rfl (WO.nil (aA rfl rfl rfl))
 refine qs (aq rfl (fun h18 => ?_) (fun h18 => ?_))
 ·
  have h18 : (s.ab.any (fun x => decide (aJ = x)) || s.ab.any (fun x => decide (br = x))) = true := by revert h18; generalize s.ab.any (fun x => decide (aJ = x)) = a; generalize s.ab.any (fun x => decide (br = x)) = b; cases a <;> cases b <;> simp
  have hg : gg ab s = ([], 4) := by unfold gg; rw [if_pos h18]
  refine W.seq (W.region ?_)
  iterate 2 refine pE rfl ?_
  refine WO.nil (qs ?_)
  try refine aU (d := 4) rfl rfl ?_
  refine W.ret (an (QF.ar trivial rfl ?_))
  rw [hg]; rfl
 have h18 : ¬ ((s.ab.any (fun x => decide (aJ = x)) || s.ab.any (fun x => decide (br = x))) = true) := by revert h18; generalize s.ab.any (fun x => decide (aJ = x)) = a; generalize s.ab.any (fun x => decide (br = x)) = b; cases a <;> cases b <;> simp
 refine W.skip (qs (W.seq (W.region ?_)))
 iterate 2 refine pE rfl ?_
 refine pE rfl (fF rfl rfl rfl (qd ab s.ab (by omega)) (by rfl) rfl rfl ?_)
 iterate 5 refine pE rfl ?_
 refine WO.nil (qs ?_)
 iterate 2 refine W.seq ?_
 refine W.region ?_
 iterate 2 refine pE rfl ?_
 refine WO.nil (qs (aq rfl (fun h27 => ?_) (fun h27 => ?_)))
 ·
  have h27 : (bX ab [] s.ab).2 ≠ 0 := by simpa using h27
  have hg : gg ab s = ([], (bX ab [] s.ab).2) := by unfold gg; rw [if_neg h18, if_pos h27]
  refine W.seq (W.region ?_)
  iterate 3 refine pE rfl ?_
  refine WO.nil (qs ?_)
  try refine aU (d := 4) rfl rfl ?_
  refine W.ret (an (QF.ar trivial rfl ?_))
  rw [hg]; rfl
 have h27 : (bX ab [] s.ab).2 = 0 := by simpa using h27
 have hg := vT ab s h18 h27
 generalize hT : n9 ab (bX ab [] s.ab).1 [aJ, br] = TT at hg
 refine W.skip (qs ?_)
 iterate 2 refine W.seq ?_
 refine W.region (pu (aG (es := [aJ, br].map sc) aa rfl rfl rfl rfl rfl rfl rfl rfl rfl) rfl ?_)
 iterate 2 refine pE rfl ?_
 refine WO.nil (qs (W.block (W.len (t := 29) rfl rfl (fun hlen => ?_))))
 try simp only [List.length_map, Ex.aF] at hlen
 refine W.aW (ι := {x : Nat × List Col // match x with | (k, out) => k ≤ [aJ, br].length ∧ n9 ab out ([aJ, br].drop k) = TT ∧ out.length ≤ 1000 + k})
  (fun x => match x.1 with | (k, out) => [(6, .own 0 (out.map Col.c)), (31, .d (.v (.int .i64 ((k : Nat) : Int))))]) [(0, _), (29, _), (30, _)]
  (fun x => match x.1 with | (k, out) => []) [] [0] 1 (fun x => match x.1 with | (k, out) => [aJ, br].length - k)
  [1] ⟨(0, (bX ab [] s.ab).1), ?_⟩ rfl ?_ ⟨rfl, rfl, rfl, rfl, rfl, rfl, trivial⟩ ?_ trivial rfl ?_
 · exact ⟨Nat.zero_le _, hT, by simp at htl; omega⟩
 · repeat' first | exact trivial | refine ⟨rfl, ?_⟩
 · repeat' exact trivial
 rintro ⟨⟨k, out⟩, hk, hI, hL⟩
 show W _ _ _ _ _ ⟨[(6, .own 0 (out.map Col.c)), (31, .d (.v (.int .i64 ((k : Nat) : Int)))), (0, _), (29, _), (30, _)], [], [0], 1⟩
 refine W.seq (W.region (pE rfl (WO.nil (qs (W.seq (bg (l := [aJ, br]) (k := k) rfl (by simp [Ex.aF, aK]) hk (fun x hx hd hlt => ?_) (fun he hd => ?_)))))))
 ·
  rw [hd] at hI
  simp only [n9] at hI
  have hlt2 : k < 2 := hlt
  refine W.skip (qs (W.seq (W.block (W.seq (W.region (pu (indexAddr (es := [aJ, br].map sc) aa rfl rfl rfl rfl rfl rfl (Int.natCast_nonneg _) (aH hx) rfl) rfl ?_))))))
  refine pE rfl (pE rfl (WO.nil (qs ?_)))
  iterate 2 refine W.seq ?_
  refine W.region ?_
  iterate 2 refine pE rfl ?_
  refine pu (ae rfl rfl rfl (pd ab x) rfl) rfl ?_
  refine pE rfl (WO.nil (qs (W.seq (W.region ?_))))
  iterate 2 refine pE rfl ?_
  refine WO.nil (qs (aq rfl (fun h39 => ?_) (fun h39 => ?_)))
  ·
   rw [if_pos (by simpa using h39)] at hI
   refine W.seq (W.region ?_)
   iterate 3 refine pE rfl ?_
   refine WO.nil (qs ?_)
   try refine aU (d := 4) rfl rfl ?_
   refine W.ret (an (au (an (bw (au (an (QF.ar trivial rfl ?_)))))))
   rw [hg, ← hI]; rfl
  rw [if_neg (by simpa using h39)] at hI
  refine W.skip (qs (W.region ?_))
  iterate 2 refine pE rfl ?_
  refine pu (build aa rfl rfl rfl rfl) rfl ?_
  refine pu (aG aa rfl rfl rfl rfl rfl rfl rfl rfl rfl) rfl ?_
  refine ck (fn := Col.c) (a := ⟨x, 2⟩) aa rfl rfl rfl rfl rfl rfl rfl rfl rfl rfl (fun _ => rfl) (by show (out.length + 1) * 24 ≤ _; omega) ?_
  refine pE rfl (WO.nil (a0 (qs (W.region ?_))))
  iterate 2 refine pE rfl ?_
  refine WO.nil (W.aY [1] ⟨(k + 1, out ++ [⟨x, 2⟩]), ?_⟩ ?_ rfl ?_ ⟨rfl, rfl, rfl, rfl, rfl, rfl, trivial⟩ ?_ trivial rfl)
  · exact ⟨hlt, hI, by simp; omega⟩
  · dsimp only; omega
  · repeat' first | exact trivial | refine ⟨rfl, ?_⟩ | refine ⟨aE (by assumption) (by assumption), ?_⟩
  repeat' exact trivial
 rw [hd] at hI
 simp only [n9] at hI
 refine W.exit (aN (aR (aO (qs (W.seq (W.region ?_))))))
 iterate 3 refine pE rfl ?_
 refine WO.nil (qs ?_)
 try refine aU (d := 4) rfl rfl ?_
 refine W.ret (QF.ar trivial rfl ?_)
 rw [hg, ← hI]; rfl
theorem tO (n : ByteArray) (s : fx) : aw Try.prog 84 [.d (.v (.string n)), .row (s.c.map A.d)] (.d (.v (.bool (s.ab.any fun x => decide (n = x))))) 0 := by
 refine aw.a8 (n := 8) (ts := [3]) Try.func84 (by kernel_rfl) rfl Try.ntmps84 Try.results84 rfl rfl fun C hC hG => ?_
 refine W.seq (W.region (pE rfl (WO.nil (qs (W.seq (W.region (pE rfl (pE rfl (pE rfl (pu (ae rfl rfl rfl (dF s.ab n) rfl) rfl ?_))))))))))
 refine pE rfl (WO.nil (qs (W.ret (QF.ar trivial rfl ?_))))
 rfl
end Go.Proofs.Ytjenenllmjlimaa
namespace Go.Proofs.Ytjenenllmjlimaa
open Go.Ab Go.Tb
set_option maxRecDepth 10000
attribute [local irreducible] W WO Pu QS QB QL QF QV bO CH QE
def fK (spans : List ByteArray) : List (List Col) → Int
 | [] => 0
 | c :: r => if dd c spans ≠ 0 then dd c spans else fK spans r
theorem vw (ab right : List Col) (s : fx) : pC ab right s =
  if (aZ s.op).any (fun n => s.ab.any fun x => decide (n = x)) then ([], 4)
  else if eO ab right s.ab ≠ 0 then ([], eO ab right s.ab)
  else if fK (aZ s.op) [ab, right] ≠ 0 then ([], fK (aZ s.op) [ab, right])
  else vP (ab ++ eT s.ab (aZ s.op) right) := by
 unfold pC
 simp only [fK]
 by_cases h1 : dd ab (aZ s.op) = 0 <;> by_cases h2 : dd right (aZ s.op) = 0 <;> simp [h1, h2]
@[reducible] def lc (c : List Col) : List D := [.sl (c.map Col.c)]
theorem ve {d : List kF} {name : ByteArray} {t : bj} (h : eD d name = some t) : ∃ x ∈ d, x.table = t := by
 unfold eD at h
 cases hf : d.find? (fun x => decide (x.name = name)) with
 | none => rw [hf] at h; cases h
 | some x => rw [hf] at h; exact ⟨x, List.mem_of_find?_eq_some hf, Option.some.inj h⟩
theorem tu {a b : List Col} {x : ByteArray} {r : List ByteArray} (h : aV a x = none ∨ aV b x = none) : eO a b (x :: r) = 16 := by
 simp only [eO]
 rcases h with h | h
 · rw [h]
 rw [h]; cases aV a x <;> rfl
theorem uv {a b : List Col} {x : ByteArray} {r : List ByteArray} {c e : Col} (h : aV a x = some c) (h' : aV b x = some e) : eO a b (x :: r) = if c.type ≠ e.type then 14 else eO a b r := by
 simp only [eO, h, h']
theorem mc (d : List kF) (ab : List Col) (s : fx) (hc : ab.length ≤ 1000) (hd1 : ∀ x ∈ d, x.table.ab.length ≤ 1000) : aw Try.prog 59 [.d (.sl (d.map kF.c)), .d (.sl (ab.map Col.c)), .ag s.c]
  (.tup [.d (.sl ((hH d ab s).1.map Col.c)), .d (.v (.int .i64 (hH d ab s).2))]) 0 := by
 refine aw.a8 (n := 149) (ts := [6, 7]) Try.func59 (by kernel_rfl) rfl Try.ntmps59 Try.results59 rfl rfl fun C hC hG => ?_
 refine W.seq (W.region (bM rfl rfl rfl ?_))
 iterate 2 refine pE rfl ?_
 refine WO.nil (qs (W.seq ?_))
 obtain ⟨p, q, hpq⟩ := w9 (eD d s.table)
 have hf := w5 d s.table
 rw [hpq] at hf
 refine W.region ?_
 iterate 2 refine pE rfl ?_
 refine pE rfl (pu (ae rfl rfl rfl hf rfl) rfl ?_)
 iterate 3 refine pE rfl ?_
 refine a9 aa rfl rfl rfl (aQ aa rfl rfl rfl rfl rfl rfl rfl rfl (pE rfl (WO.nil (qs ?_))))
 iterate 2 refine W.seq ?_
 refine W.region ?_
 iterate 2 refine pE rfl ?_
 refine WO.nil (qs (aq rfl (fun h33 => ?_) (fun h33 => ?_)))
 ·
  have hg : hH d ab s = ([], 17) := by cases hq : eD d s.table with | none => simp [hH, hq] | some t => rw [hq] at h33; simp at h33
  refine W.seq (W.region ?_)
  iterate 2 refine pE rfl ?_
  refine WO.nil (qs ?_)
  try refine aU (d := 6) rfl rfl ?_
  refine W.ret (an (QF.ar trivial rfl ?_))
  rw [hg]; rfl
 obtain ⟨t, ht⟩ : ∃ t, eD d s.table = some t := by cases hq : eD d s.table with | none => rw [hq] at h33; simp at h33 | some t => exact ⟨t, rfl⟩
 have hg : hH d ab s = pC ab t.ab s := by simp [hH, ht]
 rw [vw] at hg
 have htc : t.ab.length ≤ 1000 := by obtain ⟨x, hx, rfl⟩ := ve ht; exact hd1 x hx
 rw [ht] at hpq
 simp only [rL, bj.c, List.cons.injEq, and_true] at hpq
 obtain ⟨rfl, rfl⟩ := hpq
 refine W.skip (qs (W.seq (W.region (pE rfl (WO.nil (qs ?_))))))
 iterate 2 refine W.seq ?_
 refine W.region (pE rfl (pE rfl (WO.nil (qs (W.tj [(5, .ptr 0 0), (8, .ptr 1 0), (10, .d (.sl ((aZ s.op).map sc)))] [1] [] [0, 1] [] 2 ?_ ?_)))))
 ·
  refine W.block (W.seq (W.region ?_))
  iterate 2 refine pE rfl ?_
  refine WO.nil (qs (aq rfl (fun h36 => ?_) (fun h36 => ?_)))
  ·
   have h36 : s.op = 7 := by simpa using h36
   have hsp : aZ s.op = [aJ, br] := by simp [aZ, h36]
   refine W.region (pu (aG aa rfl rfl rfl rfl rfl rfl rfl rfl rfl) rfl ?_)
   refine pE rfl (WO.nil (a0 (iC [0, 1] rfl ?_ ⟨rfl, rfl, trivial⟩ ?_ ⟨rfl, rfl, rfl, rfl, trivial⟩ rfl)))
   · rw [hsp]; exact ⟨rfl, rfl, rfl, trivial⟩
   repeat' exact trivial
  have h36 : ¬ s.op = 7 := by simpa using h36
  refine W.seq (W.region ?_)
  iterate 2 refine pE rfl ?_
  refine WO.nil (qs (aq rfl (fun h39 => ?_) (fun h39 => ?_)))
  ·
   have h39 : s.op = 8 := by simpa using h39
   have hsp : aZ s.op = [aJ] := by simp [aZ, h39]
   refine W.region (pu (aG aa rfl rfl rfl rfl rfl rfl rfl rfl rfl) rfl ?_)
   refine pE rfl (WO.nil (a0 (iC [0, 1] rfl ?_ ⟨rfl, rfl, trivial⟩ ?_ ⟨rfl, rfl, rfl, rfl, trivial⟩ rfl)))
   · rw [hsp]; exact ⟨rfl, rfl, rfl, trivial⟩
   repeat' exact trivial
  have h39 : ¬ s.op = 8 := by simpa using h39
  have hsp : aZ s.op = [] := by simp [aZ, h36, h39]
  refine yp (t := 10) rfl ?_
  refine W.skip (a0 (iC [0, 1] rfl ?_ ⟨rfl, rfl, trivial⟩ ?_ ⟨rfl, rfl, rfl, rfl, trivial⟩ rfl))
  · rw [hsp]; exact ⟨rfl, rfl, rfl, trivial⟩
  repeat' exact trivial
 refine qs ?_
 iterate 2 refine W.seq ?_
 refine W.region ?_
 iterate 2 refine pE rfl ?_
 refine pu (ae rfl rfl rfl (pL _ _ ⟨fun _ _ => rfl, rfl⟩ _ (fun n => tO n s) (aZ s.op)) rfl) rfl ?_
 refine WO.nil (qs (aq rfl (fun h44 => ?_) (fun h44 => ?_)))
 ·
  rw [if_pos h44] at hg
  refine W.seq (W.region ?_)
  iterate 2 refine pE rfl ?_
  refine WO.nil (qs ?_)
  try refine aU (d := 6) rfl rfl ?_
  refine W.ret (an (QF.ar trivial rfl ?_))
  rw [hg]; rfl
 rw [if_neg (by rw [h44]; decide)] at hg
 refine W.skip (qs ?_)
 iterate 2 refine W.seq ?_
 refine W.region (pE rfl (pE rfl ?_))
 iterate 2 refine pE rfl ?_
 refine WO.nil (qs (W.block (W.len (t := 46) rfl rfl (fun hlen => ?_))))
 try simp only [List.length_map, Ex.aF] at hlen
 refine W.aW (ι := {x : Nat // match x with | k => k ≤ s.ab.length ∧ eO ab t.ab (s.ab.drop k) = eO ab t.ab s.ab})
  (fun x => match x.1 with | k => [(5, .ptr 0 0), (8, .ptr 1 0), (48, .d (.v (.int .i64 ((k : Nat) : Int))))]) [(1, _), (10, _), (46, _), (47, _)]
  (fun x => match x.1 with | k => []) [(0, _), (1, _)] [] 2 (fun x => match x.1 with | k => s.ab.length - k)
  [0, 1] ⟨0, ?_⟩ rfl ?_ ⟨rfl, rfl, rfl, rfl, rfl, rfl, rfl, rfl, trivial⟩ ?_ ⟨rfl, rfl, rfl, rfl, trivial⟩ rfl ?_
 · exact ⟨Nat.zero_le _, rfl⟩
 · repeat' first | exact trivial | refine ⟨rfl, ?_⟩
 · repeat' exact trivial
 rintro ⟨k, hk, hI⟩
 show W _ _ _ _ _ ⟨[(5, .ptr 0 0), (8, .ptr 1 0), (48, .d (.v (.int .i64 ((k : Nat) : Int)))), (1, _), (10, _), (46, _), (47, _)], [(0, _), (1, _)], [], 2⟩
 refine W.seq (W.region (pE rfl (WO.nil (qs (W.seq (bg (l := s.ab) (k := k) rfl (by simp [Ex.aF, aK]) hk (fun x hx hd hlt => ?_) (fun he hd => ?_)))))))
 ·
  rw [hd] at hI
  refine W.skip (qs (W.seq (W.block (W.seq (W.region (pu (indexAddr aa rfl rfl rfl rfl rfl rfl (Int.natCast_nonneg _) (aH hx) rfl) rfl ?_))))))
  refine pE rfl (pE rfl (WO.nil (qs (W.seq (W.bE aa (by kernel_rfl) ?_)))))
  iterate 2 refine ao (ev aa rfl) rfl ?_
  refine ao (ae rfl rfl rfl (fM ..) rfl) rfl ?_
  refine ao (ev aa rfl) rfl ?_
  refine ao (ev aa rfl) rfl ?_
  refine ao (ev aa rfl) rfl ?_
  refine ao (ae rfl rfl rfl (fM ..) rfl) rfl ?_
  iterate 2 refine ao (ev aa rfl) rfl ?_
  refine CH.nil ?_
  refine qs (W.block (W.seq ?_))
  apply aI; (case hb => rfl)
  ·
   iterate 3 refine pE rfl ?_
   apply aC; (case hj => rfl); (case hl => rfl)
   ·
    iterate 2 refine ay rfl rfl rfl rfl ?_
    iterate 2 refine pE rfl ?_
    refine WO.nil (aA rfl rfl rfl)
   refine ah rfl rfl (pE rfl (ah rfl rfl ?_))
   iterate 3 refine pE rfl ?_
   refine WO.nil (aA rfl rfl rfl)
  refine qs (aq rfl (fun h59 => ?_) (fun h59 => ?_))
  ·
   have h5 : aV ab x = none ∨ aV t.ab x = none := by
    by_cases q1 : idx (ab.findIdx? fun c => decide (c.name = x)) < 0
    · exact .inl (jq q1)
    refine .inr (jq ?_)
    revert h59
    simp [q1]
   rw [tu h5] at hI
   rw [← hI, if_pos (by decide)] at hg
   refine W.seq (W.region ?_)
   iterate 2 refine pE rfl ?_
   refine WO.nil (qs ?_)
   try refine aU (d := 6) rfl rfl ?_
   refine W.ret (au (au (an (bw (au (an (QF.ar trivial rfl ?_)))))))
   rw [hg]; rfl
  have h59' : ¬ (idx (ab.findIdx? fun c => decide (c.name = x)) < 0) ∧ ¬ (idx (t.ab.findIdx? fun c => decide (c.name = x)) < 0) := by
   revert h59
   generalize idx (ab.findIdx? fun c => decide (c.name = x)) = u
   generalize idx (t.ab.findIdx? fun c => decide (c.name = x)) = v
   by_cases q1 : u < 0 <;> by_cases q2 : v < 0 <;> simp [q1, q2]
  obtain ⟨i, a, a3, a4, a5, a6⟩ := jk h59'.1
  obtain ⟨j, b, b3, b4, b5, b6⟩ := jk h59'.2
  rw [uv (c := a) (e := b) a5 b5] at hI
  refine W.seq (W.bE aa (by kernel_rfl) ?_)
  iterate 2 refine ao (ev aa rfl) rfl ?_
  refine ao (indexAddr aa rfl rfl rfl rfl rfl rfl (i := idx _) (by rw [a3]; exact Int.natCast_nonneg _) (by rw [a3]; exact aH a4) rfl) rfl ?_
  refine ao (ev aa rfl) rfl ?_
  refine ao (ev aa rfl) rfl ?_
  refine ao (ev aa rfl) rfl ?_
  refine ao (ev aa rfl) rfl ?_
  refine ao (ev aa rfl) rfl ?_
  refine ao (indexAddr aa rfl rfl rfl rfl rfl rfl (i := idx _) (by rw [b3]; exact Int.natCast_nonneg _) (by rw [b3]; exact aH b4) rfl) rfl ?_
  refine ao (ev aa rfl) rfl ?_
  refine ao (ev aa rfl) rfl ?_
  iterate 2 refine ao (ev aa rfl) rfl ?_
  refine CH.nil ?_
  refine qs (aq rfl (fun h66 => ?_) (fun h66 => ?_))
  ·
   have h66 : a.type ≠ b.type := by simpa using h66
   rw [if_pos h66] at hI
   rw [← hI, if_pos (by decide)] at hg
   refine W.seq (W.region ?_)
   iterate 2 refine pE rfl ?_
   refine WO.nil (qs ?_)
   try refine aU (d := 6) rfl rfl ?_
   refine W.ret (au (au (an (bw (au (an (QF.ar trivial rfl ?_)))))))
   rw [hg]; rfl
  have h66 : ¬ (a.type ≠ b.type) := by simpa using h66
  rw [if_neg h66] at hI
  refine W.skip (a0 (a0 (qs (W.region ?_))))
  iterate 2 refine pE rfl ?_
  refine WO.nil (W.aY [0, 1] ⟨k + 1, ?_⟩ ?_ rfl ?_ ⟨rfl, rfl, rfl, rfl, rfl, rfl, rfl, rfl, trivial⟩ ?_ ⟨rfl, rfl, rfl, rfl, trivial⟩ rfl)
  · exact ⟨hlt, hI⟩
  · dsimp only; omega
  · repeat' first | exact trivial | refine ⟨rfl, ?_⟩ | refine ⟨aE (by assumption) (by assumption), ?_⟩
  repeat' exact trivial
 rw [hd] at hI
 simp only [eO] at hI
 rw [← hI] at hg
 simp only [ne_eq, not_true_eq_false, if_false] at hg
 generalize hS : fK (aZ s.op) [ab, t.ab] = SS at hg
 refine W.exit (aN (aR (aO (qs ?_))))
 iterate 2 refine W.seq ?_
 refine W.region ?_
 iterate 2 refine pE rfl ?_
 refine pE rfl (pu (aG (es := [ab, t.ab].map lc) aa rfl rfl rfl rfl rfl rfl rfl rfl rfl) rfl ?_)
 iterate 2 refine pE rfl ?_
 refine WO.nil (qs (W.block (W.len (t := 83) rfl rfl (fun hlen => ?_))))
 try simp only [List.length_map, Ex.aF] at hlen
 refine W.aW (ι := {x : Nat // match x with | k => k ≤ [ab, t.ab].length ∧ fK (aZ s.op) ([ab, t.ab].drop k) = SS})
  (fun x => match x.1 with | k => [(5, .ptr 0 0), (8, .ptr 1 0), (85, .d (.v (.int .i64 ((k : Nat) : Int))))]) [(1, _), (10, _), (83, _), (84, _)]
  (fun x => match x.1 with | k => []) [(0, _), (1, _)] [] 2 (fun x => match x.1 with | k => [ab, t.ab].length - k)
  [0, 1] ⟨0, ?_⟩ rfl ?_ ⟨rfl, rfl, rfl, rfl, rfl, rfl, rfl, rfl, trivial⟩ ?_ ⟨rfl, rfl, rfl, rfl, trivial⟩ rfl ?_
 · exact ⟨Nat.zero_le _, hS⟩
 · repeat' first | exact trivial | refine ⟨rfl, ?_⟩
 · repeat' exact trivial
 rintro ⟨k, hk, hK⟩
 show W _ _ _ _ _ ⟨[(5, .ptr 0 0), (8, .ptr 1 0), (85, .d (.v (.int .i64 ((k : Nat) : Int)))), (1, _), (10, _), (83, _), (84, _)], [(0, _), (1, _)], [], 2⟩
 refine W.seq (W.region (pE rfl (WO.nil (qs (W.seq (bg (l := [ab, t.ab]) (k := k) rfl (by simp [Ex.aF, aK]) hk (fun c hx hd hlt => ?_) (fun he hd => ?_)))))))
 ·
  rw [hd] at hK
  simp only [fK] at hK
  refine W.skip (qs (W.seq (W.block (W.seq (W.region (pu (indexAddr (es := [ab, t.ab].map lc) aa rfl rfl rfl rfl rfl rfl (Int.natCast_nonneg _) (aH hx) rfl) rfl ?_))))))
  refine pE rfl (pE rfl (WO.nil (qs (W.seq (W.region ?_)))))
  iterate 3 refine pE rfl ?_
  refine WO.nil (qs (W.block (W.len (t := 89) rfl rfl (fun hlen => ?_))))
  try simp only [List.length_map, Ex.aF] at hlen
  refine W.aW (ι := {x : Nat // match x with | j => j ≤ (aZ s.op).length ∧ dd c ((aZ s.op).drop j) = dd c (aZ s.op)})
   (fun x => match x.1 with | j => [(5, .ptr 0 0), (8, .ptr 1 0), (91, .d (.v (.int .i64 ((j : Nat) : Int))))]) [(1, _), (10, _), (16, _), (83, _), (84, _), (85, _), (89, _), (90, _)]
   (fun x => match x.1 with | j => []) [(0, _), (1, _)] [] 2 (fun x => match x.1 with | j => (aZ s.op).length - j)
   [0, 1] ⟨0, ?_⟩ rfl ?_ ⟨rfl, rfl, rfl, rfl, rfl, rfl, rfl, rfl, rfl, rfl, rfl, rfl, rfl, rfl, rfl, rfl, trivial⟩ ?_ ⟨rfl, rfl, rfl, rfl, trivial⟩ rfl ?_
  · exact ⟨Nat.zero_le _, rfl⟩
  · repeat' first | exact trivial | refine ⟨rfl, ?_⟩
  · repeat' exact trivial
  rintro ⟨j, hk, hJ⟩
  show W _ _ _ _ _ ⟨[(5, .ptr 0 0), (8, .ptr 1 0), (91, .d (.v (.int .i64 ((j : Nat) : Int)))), (1, _), (10, _), (16, _), (83, _), (84, _), (85, _), (89, _), (90, _)], [(0, _), (1, _)], [], 2⟩
  refine W.seq (W.region (pE rfl (WO.nil (qs (W.seq (bg (l := aZ s.op) (k := j) rfl (by simp [Ex.aF, aK]) hk (fun m hx hd hlt => ?_) (fun he hd => ?_)))))))
  ·
   rw [hd] at hJ
   simp only [dd] at hJ
   refine W.skip (qs (W.seq (W.block (W.seq (W.region (pu (indexAddr aa rfl rfl rfl rfl rfl rfl (Int.natCast_nonneg _) (aH hx) rfl) rfl ?_))))))
   refine pE rfl (pE rfl (WO.nil (qs (W.seq (W.region ?_)))))
   iterate 2 refine pE rfl ?_
   refine pu (ae rfl rfl rfl (pd c m) rfl) rfl ?_
   refine pE rfl (WO.nil (qs (W.seq (W.region ?_))))
   iterate 2 refine pE rfl ?_
   refine WO.nil (qs (aq rfl (fun h99 => ?_) (fun h99 => ?_)))
   ·
    have h99 : cH c m ≠ 0 := by simpa using h99
    rw [if_pos h99] at hJ
    simp only [← hJ] at hK
    rw [if_pos h99] at hK
    simp only [← hK] at hg
    rw [if_pos h99] at hg
    refine W.seq (W.region ?_)
    iterate 3 refine pE rfl ?_
    refine WO.nil (qs ?_)
    try refine aU (d := 6) rfl rfl ?_
    refine W.ret (au (an (bw (au (au (an (bw (au (an (QF.ar trivial rfl ?_))))))))))
    rw [hg]; rfl
   rw [if_neg (by simpa using h99)] at hJ
   refine W.skip (a0 (qs (W.region ?_)))
   iterate 2 refine pE rfl ?_
   refine WO.nil (W.aY [0, 1] ⟨j + 1, ?_⟩ ?_ rfl ?_ ⟨rfl, rfl, rfl, rfl, rfl, rfl, rfl, rfl, rfl, rfl, rfl, rfl, rfl, rfl, rfl, rfl, trivial⟩ ?_ ⟨rfl, rfl, rfl, rfl, trivial⟩ rfl)
   · exact ⟨hlt, hJ⟩
   · dsimp only; omega
   · repeat' first | exact trivial | refine ⟨rfl, ?_⟩ | refine ⟨aE (by assumption) (by assumption), ?_⟩
   repeat' exact trivial
  rw [hd] at hJ
  simp only [dd] at hJ
  simp only [← hJ] at hK
  rw [if_neg (by decide)] at hK
  refine W.exit (aN (aR (aO (a0 (qs (W.region ?_))))))
  iterate 2 refine pE rfl ?_
  refine WO.nil (W.aY [0, 1] ⟨k + 1, ?_⟩ ?_ rfl ?_ ⟨rfl, rfl, rfl, rfl, rfl, rfl, rfl, rfl, trivial⟩ ?_ ⟨rfl, rfl, rfl, rfl, trivial⟩ rfl)
  · exact ⟨hlt, hK⟩
  · dsimp only; omega
  · repeat' first | exact trivial | refine ⟨rfl, ?_⟩ | refine ⟨aE (by assumption) (by assumption), ?_⟩
  repeat' exact trivial
 rw [hd] at hK
 simp only [fK] at hK
 rw [← hK] at hg
 simp only [ne_eq, not_true_eq_false, if_false] at hg
 refine W.exit (aN (aR (aO (qs (W.seq (W.region (pE rfl (fF rfl rfl rfl (j0 ab (by omega)) (by rfl) rfl rfl ?_))))))))
 refine pE rfl (WO.nil (qs ?_))
 iterate 2 refine W.seq ?_
 refine W.region (pE rfl (pE rfl ?_))
 iterate 2 refine pE rfl ?_
 refine WO.nil (qs (W.block (W.len (t := 106) rfl rfl (fun hlen => ?_))))
 try simp only [List.length_map, Ex.aF] at hlen
 refine W.aW (ι := {x : Nat × List Col // match x with | (k, out) => k ≤ t.ab.length ∧ out ++ eT s.ab (aZ s.op) (t.ab.drop k) = ab ++ eT s.ab (aZ s.op) t.ab ∧ out.length ≤ 1000 + k})
  (fun x => match x.1 with | (k, out) => [(5, .ptr 0 0), (20, .own 1 (out.map Col.c)), (108, .d (.v (.int .i64 ((k : Nat) : Int))))]) [(10, _), (106, _), (107, _)]
  (fun x => match x.1 with | (k, out) => []) [(0, _)] [1] 2 (fun x => match x.1 with | (k, out) => t.ab.length - k)
  [0, 2] ⟨(0, ab), ?_⟩ rfl ?_ ⟨rfl, rfl, rfl, rfl, rfl, rfl, trivial⟩ ?_ ⟨rfl, rfl, trivial⟩ rfl ?_
 · exact ⟨Nat.zero_le _, rfl, by omega⟩
 · repeat' first | exact trivial | refine ⟨rfl, ?_⟩
 · repeat' exact trivial
 rintro ⟨⟨k, out⟩, hk, hL, hN⟩
 show W _ _ _ _ _ ⟨[(5, .ptr 0 0), (20, .own 1 (out.map Col.c)), (108, .d (.v (.int .i64 ((k : Nat) : Int)))), (10, _), (106, _), (107, _)], [(0, _)], [1], 2⟩
 refine W.seq (W.region (pE rfl (WO.nil (qs (W.seq (bg (l := t.ab) (k := k) rfl (by simp [Ex.aF, aK]) hk (fun c hx hd hlt => ?_) (fun he hd => ?_)))))))
 ·
  rw [hd] at hL
  refine W.skip (qs (W.seq (W.block (W.seq (W.region (pu (indexAddr aa rfl rfl rfl rfl rfl rfl (Int.natCast_nonneg _) (aH hx) rfl) rfl ?_))))))
  refine pE rfl (a9 aa rfl rfl rfl (aQ aa rfl rfl rfl rfl rfl rfl rfl rfl (WO.nil (qs (W.seq ?_)))))
  apply aI; (case hb => rfl)
  ·
   refine pE rfl (pE rfl (pE rfl (pE rfl (pu (ae rfl rfl rfl (dF s.ab c.name) rfl) rfl ?_))))
   iterate 2 refine pE rfl ?_
   apply aC; (case hj => rfl); (case hl => rfl)
   ·
    refine ah rfl rfl (pE rfl (ah rfl rfl (pE rfl (ah rfl rfl (pE rfl (ah rfl rfl (pu (ae rfl rfl rfl (dF (aZ s.op) c.name) rfl) rfl ?_)))))))
    refine ah rfl rfl ?_
    iterate 2 refine pE rfl ?_
    refine WO.nil (aA rfl rfl rfl)
   iterate 5 refine ay rfl rfl rfl rfl ?_
   refine pE rfl (WO.nil (aA rfl rfl rfl))
  refine qs (aq rfl (fun h124 => ?_) (fun h124 => ?_))
  ·
   have hr : eT s.ab (aZ s.op) (c :: t.ab.drop (k + 1)) = c :: eT s.ab (aZ s.op) (t.ab.drop (k + 1)) := by
    simp only [eT]
    rw [List.filter_cons_of_pos]
    revert h124
    generalize s.ab.any (fun x => decide (c.name = x)) = u
    generalize (aZ s.op).any (fun x => decide (c.name = x)) = v
    cases u <;> cases v <;> simp
   rw [hr] at hL
   refine W.region (pE rfl (pE rfl (pu (aG aa rfl rfl rfl rfl rfl rfl rfl rfl rfl) rfl ?_)))
   refine ck (fn := Col.c) (a := c) aa rfl rfl rfl rfl rfl rfl rfl rfl rfl rfl (fun _ => rfl) (by show (out.length + 1) * 24 ≤ _; omega) ?_
   refine pE rfl (WO.nil (a0 (qs (W.region ?_))))
   iterate 2 refine pE rfl ?_
   refine WO.nil (W.aY [0, 3] ⟨(k + 1, out ++ [c]), ?_⟩ ?_ rfl ?_ ⟨rfl, rfl, rfl, rfl, rfl, rfl, trivial⟩ ?_ ⟨rfl, rfl, trivial⟩ rfl)
   · exact ⟨hlt, by rw [← hL]; simp, by simp; omega⟩
   · dsimp only; omega
   · repeat' first | exact trivial | refine ⟨rfl, ?_⟩ | refine ⟨aE (by assumption) (by assumption), ?_⟩
   repeat' exact trivial
  have hr : eT s.ab (aZ s.op) (c :: t.ab.drop (k + 1)) = eT s.ab (aZ s.op) (t.ab.drop (k + 1)) := by
   simp only [eT]
   rw [List.filter_cons_of_neg]
   revert h124
   generalize s.ab.any (fun x => decide (c.name = x)) = u
   generalize (aZ s.op).any (fun x => decide (c.name = x)) = v
   cases u <;> cases v <;> simp
  rw [hr] at hL
  refine W.skip (a0 (qs (W.region ?_)))
  iterate 2 refine pE rfl ?_
  refine WO.nil (W.aY [0, 1] ⟨(k + 1, out), ?_⟩ ?_ rfl ?_ ⟨rfl, rfl, rfl, rfl, rfl, rfl, trivial⟩ ?_ ⟨rfl, rfl, trivial⟩ rfl)
  · exact ⟨hlt, hL, by omega⟩
  · dsimp only; omega
  · repeat' first | exact trivial | refine ⟨rfl, ?_⟩ | refine ⟨aE (by assumption) (by assumption), ?_⟩
  repeat' exact trivial
 rw [hd] at hL
 rw [show eT s.ab (aZ s.op) [] = [] from rfl, List.append_nil] at hL
 rw [← hL] at hg
 unfold vP at hg
 refine W.exit (aN (aR (aO (qs ?_))))
 iterate 2 refine W.seq ?_
 refine W.region ?_
 iterate 3 refine pE rfl ?_
 refine WO.nil (qs (W.block (W.len (t := 130) rfl rfl (fun hlen => ?_))))
 try simp only [List.length_map, Ex.aF] at hlen
 refine W.aW (ι := {x : Nat // match x with | k => k ≤ out.length ∧ gh out k (out.drop k) = gh out 0 out})
  (fun x => match x.1 with | k => [(20, .own 0 (out.map Col.c)), (130, .own 0 (out.map Col.c)), (132, .d (.v (.int .i64 ((k : Nat) : Int))))]) [(131, _)]
  (fun x => match x.1 with | k => []) [] [0] 1 (fun x => match x.1 with | k => out.length - k)
  [1] ⟨0, ?_⟩ rfl ?_ ⟨rfl, rfl, trivial⟩ ?_ trivial rfl ?_
 · exact ⟨Nat.zero_le _, rfl⟩
 · repeat' first | exact trivial | refine ⟨rfl, ?_⟩
 · repeat' exact trivial
 rintro ⟨k, hk, hM⟩
 show W _ _ _ _ _ ⟨[(20, .own 0 (out.map Col.c)), (130, .own 0 (out.map Col.c)), (132, .d (.v (.int .i64 ((k : Nat) : Int)))), (131, _)], [], [0], 1⟩
 refine W.seq (W.region (pE rfl (WO.nil (qs (W.seq (bg (l := out) (k := k) rfl (by simp [Ex.aF, aK]) hk (fun c hx hd hlt => ?_) (fun he hd => ?_)))))))
 ·
  rw [hd] at hM
  simp only [gh] at hM
  refine W.skip (qs (W.seq (W.block (W.seq (W.region (pE rfl (pu (indexAddr aa rfl rfl rfl rfl rfl rfl (Int.natCast_nonneg _) (aH hx) rfl) rfl ?_)))))))
  refine pE rfl (a9 aa rfl rfl rfl (pE rfl (aQ aa rfl rfl rfl rfl rfl rfl rfl rfl (WO.nil (qs (W.seq (W.bE aa (by kernel_rfl) ?_)))))))
  iterate 2 refine ao (ev aa rfl) rfl ?_
  refine ao (wA (fn := Col.c) aa rfl rfl rfl rfl rfl rfl (fun _ => rfl) (by omega)) rfl ?_
  refine ao (ev aa rfl) rfl ?_
  refine ao (ev aa rfl) rfl ?_
  refine ao (ae rfl rfl rfl (fM (out.take k) c.name) rfl) rfl ?_
  refine ao (ev aa rfl) rfl ?_
  refine CH.nil ?_
  refine qs (aq rfl (fun h143 => ?_) (fun h143 => ?_))
  ·
   have h143 : ((out.take k).any fun y => decide (y.name = c.name)) = true := dh.symm.trans h143
   rw [h143, Bool.true_or] at hM
   rw [if_pos hM.symm] at hg
   refine W.seq (W.region ?_)
   iterate 2 refine pE rfl ?_
   refine WO.nil (qs ?_)
   try refine aU (d := 6) rfl rfl ?_
   refine W.ret (au (an (bw (au (an (QF.ar trivial rfl ?_))))))
   rw [hg]; rfl
  have h143 : ((out.take k).any fun y => decide (y.name = c.name)) = false := dh.symm.trans h143
  rw [h143, Bool.false_or] at hM
  refine W.skip (a0 (qs (W.region ?_)))
  iterate 2 refine pE rfl ?_
  refine WO.nil (W.aY [0] ⟨k + 1, ?_⟩ ?_ rfl ?_ ⟨rfl, rfl, trivial⟩ ?_ trivial rfl)
  · exact ⟨hlt, hM⟩
  · dsimp only; omega
  · repeat' first | exact trivial | refine ⟨rfl, ?_⟩ | refine ⟨aE (by assumption) (by assumption), ?_⟩
  repeat' exact trivial
 rw [hd] at hM
 simp only [gh] at hM
 rw [if_neg (by rw [← hM]; decide)] at hg
 refine W.exit (aN (aR (aO (qs ?_))))
 iterate 2 refine W.seq ?_
 refine W.region ?_
 iterate 3 refine pE rfl ?_
 refine WO.nil (qs (aq rfl (fun h147 => ?_) (fun h147 => ?_)))
 ·
  rw [if_pos (by simp at h147; omega)] at hg
  refine W.seq (W.region ?_)
  iterate 2 refine pE rfl ?_
  refine WO.nil (qs ?_)
  try refine aU (d := 6) rfl rfl ?_
  refine W.ret (an (QF.ar trivial rfl ?_))
  rw [hg]; rfl
 rw [if_neg (by simp at h147; omega)] at hg
 refine W.skip (qs (W.seq (W.region ?_)))
 iterate 3 refine pE rfl ?_
 refine WO.nil (qs ?_)
 try refine aU (d := 6) rfl rfl ?_
 refine W.ret (QF.ar trivial rfl ?_)
 rw [hg]; rfl
end Go.Proofs.Ytjenenllmjlimaa
namespace Go.Proofs.Ytjenenllmjlimaa
open Go.Ab Go.Tb
set_option maxRecDepth 10000
attribute [local irreducible] W WO Pu QS QB QL QF QV bO CH QE
def xP (s : fx) : Prop := s.items.length ≤ 400 ∧ s.ab.length ≤ 400 ∧ s.aggs.length ≤ 400 ∧ s.sorts.length ≤ 400
def xK (d : List kF) : Prop := ∀ x ∈ d, x.table.ab.length ≤ 1000
theorem mN : ∀ (l : List mW) (ks : List ByteArray), gG ks l = 0 → ∀ x ∈ l, db x.e = 0
 | [], _, _, x, hx => by cases hx
 | y :: r, ks, h, x, hx => by
  simp only [gG] at h
  split at h
  · rename_i h1; exact absurd h h1
  rename_i h1
  split at h
  · rename_i h2; exact absurd h h2
  rcases List.mem_cons.1 hx with rfl | hx
  · exact mw (by omega)
  exact mN r _ h x hx
theorem rA (d : List kF) (ab : List Col) (s : fx) (hf : xP s) (ht : xK d) (hc : ab.length ≤ 1000) : aw Try.prog 38 [.d (.sl (d.map kF.c)), .d (.sl (ab.map Col.c)), .ag s.c]
  (.tup [.d (.sl ((eh d ab s).1.map Col.c)), .d (.v (.int .i64 (eh d ab s).2))]) 0 := by
 obtain ⟨hf1, hf2, hf3, hf4⟩ := id hf
 have hg : eh d ab s = eh d ab s := rfl
 conv at hg => rhs; unfold eh
 refine aw.a8 (n := 88) (ts := [6, 7]) Try.func38 (by kernel_rfl) rfl Try.ntmps38 Try.results38 rfl rfl fun C hC hG => ?_
 refine W.seq (W.region (bM rfl rfl rfl ?_))
 iterate 2 refine pE rfl ?_
 refine WO.nil (qs ?_)
 iterate 2 refine W.seq ?_
 refine W.region (pE rfl (pu (ae rfl rfl rfl (wP s (by omega)) rfl) rfl ?_))
 refine pE rfl (WO.nil (qs (W.seq (W.region ?_))))
 iterate 2 refine pE rfl ?_
 refine WO.nil (qs (aq rfl (fun h16 => ?_) (fun h16 => ?_)))
 ·
  rw [if_pos (by simpa using h16)] at hg
  refine W.seq (W.region ?_)
  iterate 3 refine pE rfl ?_
  refine WO.nil (qs ?_)
  try refine aU (d := 6) rfl rfl ?_
  refine W.ret (an (QF.ar trivial rfl ?_))
  (rw [hg]; rfl)
 have h16 : b9 s = 0 := by simpa using h16
 rw [if_neg (by simp [h16])] at hg
 have hse := h16
 unfold b9 at hse
 split at hse
 · cases hse
 refine W.skip (qs ?_)
 iterate 2 refine W.seq ?_
 refine W.region (pE rfl (pE rfl (WO.nil (qs (W.block (W.seq (W.region ?_)))))))
 iterate 2 refine pE rfl ?_
 refine WO.nil (qs (aq rfl (fun h20 => ?_) (fun h20 => ?_)))
 ·
  have h20 : s.op = 1 := by simpa using h20
  rw [if_pos h20] at hg hse
  have hv := mw hse
  refine W.seq (W.region ?_)
  iterate 2 refine pE rfl ?_
  refine pE rfl (pu (ae rfl rfl rfl (rJ ab s.cond hv) rfl) rfl ?_)
  iterate 5 refine pE rfl ?_
  refine WO.nil (qs ?_)
  iterate 2 refine W.seq ?_
  apply aI; (case hb => rfl)
  ·
   iterate 3 refine pE rfl ?_
   apply aC; (case hj => rfl); (case hl => rfl)
   ·
    refine ah rfl rfl (pE rfl (ah rfl rfl (pu (ae rfl rfl rfl (jM ..) rfl) rfl ?_)))
    refine ah rfl rfl ?_
    iterate 2 refine pE rfl ?_
    refine WO.nil (aA rfl rfl rfl)
   iterate 3 refine ay rfl rfl rfl rfl ?_
   refine pE rfl (WO.nil (aA rfl rfl rfl))
  refine qs (aq rfl (fun h35 => ?_) (fun h35 => ?_))
  ·
   have h35 : (eX ab s.cond).2 = 0 ∧ fits (eX ab s.cond).1 1 = false := by revert h35; generalize fits (eX ab s.cond).1 1 = u; by_cases q : (eX ab s.cond).2 = 0 <;> cases u <;> simp [q]
   have hw : iV ab s.cond = 14 := by unfold iV; rw [if_pos h35]
   simp only [hw] at hg
   refine W.region (pE rfl (WO.nil (qs (W.seq (W.region ?_)))))
   iterate 2 refine pE rfl ?_
   refine WO.nil (qs (aq rfl (fun h37 => ?_) (fun h37 => ?_)))
   ·
    rw [if_pos (by first | decide | simpa using h37)] at hg
    refine W.seq (W.region ?_)
    iterate 3 refine pE rfl ?_
    refine WO.nil (qs ?_)
    try refine aU (d := 6) rfl rfl ?_
    refine W.ret (au (an (QF.ar trivial rfl ?_)))
    (rw [hg]; rfl)
   rw [if_neg (by first | (exfalso; revert h37; decide) | simpa using h37)] at hg
   refine W.skip (a0 (qs (W.seq (W.region (pE rfl (fF rfl rfl rfl (j0 ab (by omega)) (by rfl) rfl rfl ?_))))))
   iterate 2 refine pE rfl ?_
   refine WO.nil (qs ?_)
   try refine aU (d := 6) rfl rfl ?_
   refine W.ret (QF.ar trivial rfl ?_)
   (rw [hg]; rfl)
  have h35 : ¬ ((eX ab s.cond).2 = 0 ∧ fits (eX ab s.cond).1 1 = false) := by revert h35; generalize fits (eX ab s.cond).1 1 = u; by_cases q : (eX ab s.cond).2 = 0 <;> cases u <;> simp [q]
  have hw : iV ab s.cond = (eX ab s.cond).2 := by unfold iV; rw [if_neg h35]
  simp only [hw] at hg
  refine W.skip (qs (W.seq (W.region ?_)))
  iterate 2 refine pE rfl ?_
  refine WO.nil (qs (aq rfl (fun h37 => ?_) (fun h37 => ?_)))
  ·
   rw [if_pos (by first | decide | simpa using h37)] at hg
   refine W.seq (W.region ?_)
   iterate 3 refine pE rfl ?_
   refine WO.nil (qs ?_)
   try refine aU (d := 6) rfl rfl ?_
   refine W.ret (au (an (QF.ar trivial rfl ?_)))
   (rw [hg]; rfl)
  rw [if_neg (by first | (exfalso; revert h37; decide) | simpa using h37)] at hg
  refine W.skip (a0 (qs (W.seq (W.region (pE rfl (fF rfl rfl rfl (j0 ab (by omega)) (by rfl) rfl rfl ?_))))))
  iterate 2 refine pE rfl ?_
  refine WO.nil (qs ?_)
  try refine aU (d := 6) rfl rfl ?_
  refine W.ret (QF.ar trivial rfl ?_)
  (rw [hg]; rfl)
 have h20 : ¬ s.op = 1 := by simpa using h20
 rw [if_neg h20] at hg hse
 refine W.seq (W.region ?_)
 iterate 2 refine pE rfl ?_
 refine WO.nil (qs (aq rfl (fun h39 => ?_) (fun h39 => ?_)))
 ·
  have h39 : s.op = 2 := by simpa using h39
  rw [if_pos h39] at hg hse
  have hsel : gG [] s.items = 0 := by
   split at hse
   · rename_i h1; exact absurd hse h1
   exact hse
  refine W.seq (W.region ?_)
  iterate 2 refine pE rfl ?_
  refine pE rfl (pu (ae rfl rfl rfl (sv ab s.items (by omega) (mN _ _ hsel)) rfl) rfl ?_)
  iterate 4 refine pE rfl ?_
  refine WO.nil (qs ?_)
  try refine aU (d := 6) rfl rfl ?_
  refine W.ret (au (an (QF.ar trivial rfl ?_)))
  (rw [hg]; rfl)
 have h39 : ¬ s.op = 2 := by simpa using h39
 rw [if_neg h39] at hg hse
 refine W.seq (W.region ?_)
 iterate 2 refine pE rfl ?_
 refine WO.nil (qs (aq rfl (fun h47 => ?_) (fun h47 => ?_)))
 ·
  have h47 : s.op = 3 := by simpa using h47
  rw [if_pos h47] at hg hse
  refine W.seq (W.region (pE rfl (pE rfl (pu (ae rfl rfl rfl (uw ab s (by omega) (by omega)) rfl) rfl ?_))))
  iterate 4 refine pE rfl ?_
  refine WO.nil (qs ?_)
  try refine aU (d := 6) rfl rfl ?_
  refine W.ret (au (an (QF.ar trivial rfl ?_)))
  (rw [hg]; rfl)
 have h47 : ¬ s.op = 3 := by simpa using h47
 rw [if_neg h47] at hg hse
 refine W.seq (W.region ?_)
 iterate 2 refine pE rfl ?_
 refine WO.nil (qs (aq rfl (fun h54 => ?_) (fun h54 => ?_)))
 ·
  have h54 : s.op = 4 := by simpa using h54
  rw [if_pos h54] at hg hse
  refine W.seq (W.region (pE rfl (pE rfl ?_)))
  iterate 2 refine pE rfl ?_
  refine WO.nil (qs (W.block (W.len (t := 57) rfl rfl (fun hlen => ?_))))
  try simp only [List.length_map, Ex.aF] at hlen
  refine W.aW (ι := {x : Nat // match x with | k => k ≤ s.sorts.length ∧ jO ab (s.sorts.drop k) = jO ab s.sorts})
   (fun x => match x.1 with | k => [(59, .d (.v (.int .i64 ((k : Nat) : Int))))]) [(1, _), (57, _), (58, _)]
   (fun x => match x.1 with | k => []) [] [] 0 (fun x => match x.1 with | k => s.sorts.length - k)
   [] ⟨0, ?_⟩ rfl ?_ ⟨rfl, rfl, rfl, rfl, rfl, rfl, trivial⟩ ?_ trivial rfl ?_
  · exact ⟨Nat.zero_le _, rfl⟩
  · repeat' first | exact trivial | refine ⟨rfl, ?_⟩
  · repeat' exact trivial
  rintro ⟨k, hk, hI⟩
  show W _ _ _ _ _ ⟨[(59, .d (.v (.int .i64 ((k : Nat) : Int)))), (1, _), (57, _), (58, _)], [], [], 0⟩
  refine W.seq (W.region (pE rfl (WO.nil (qs (W.seq (bg (l := s.sorts) (k := k) rfl (by simp [Ex.aF, aK]) hk (fun x hx hd hlt => ?_) (fun he hd => ?_)))))))
  ·
   rw [hd] at hI
   rw [show jO ab (x :: s.sorts.drop (k + 1)) = (!(ab.any fun c => decide (c.name = x.col)) || jO ab (s.sorts.drop (k + 1))) from rfl] at hI
   refine W.skip (qs (W.seq (W.block (W.seq (W.region (pu (indexAddr aa rfl rfl rfl rfl rfl rfl (Int.natCast_nonneg _) (aH hx) rfl) rfl ?_))))))
   refine pE rfl (a9 aa rfl rfl rfl (aQ aa rfl rfl rfl rfl rfl rfl rfl rfl (WO.nil (qs (W.seq (W.region ?_))))))
   iterate 2 refine pE rfl ?_
   refine pE rfl (pu (ae rfl rfl rfl (fM ..) rfl) rfl ?_)
   refine pE rfl (WO.nil (qs (aq rfl (fun h67 => ?_) (fun h67 => ?_))))
   ·
    have h67 : (ab.any fun c => decide (c.name = x.col)) = false := by rw [← dh]; simp at h67 ⊢; omega
    rw [h67] at hI
    rw [if_pos (by rw [← hI]; rfl)] at hg
    refine W.seq (W.region ?_)
    iterate 2 refine pE rfl ?_
    refine WO.nil (qs ?_)
    try refine aU (d := 6) rfl rfl ?_
    refine W.ret (au (an (bw (au (au (an (QF.ar trivial rfl ?_)))))))
    (rw [hg]; rfl)
   have h67 : (ab.any fun c => decide (c.name = x.col)) = true := by rw [← dh]; simp at h67 ⊢; omega
   rw [h67] at hI
   refine W.skip (a0 (qs (W.region ?_)))
   iterate 2 refine pE rfl ?_
   refine WO.nil (W.aY [] ⟨k + 1, ?_⟩ ?_ rfl ?_ ⟨rfl, rfl, rfl, rfl, rfl, rfl, trivial⟩ ?_ trivial rfl)
   · exact ⟨hlt, hI⟩
   · dsimp only; omega
   · repeat' first | exact trivial | refine ⟨aE (by assumption) (by assumption), ?_⟩
   repeat' exact trivial
  rw [hd] at hI
  rw [if_neg (by rw [← hI]; simp [jO])] at hg
  refine W.exit (aN (aR (aO (a0 (qs (W.seq (W.region (pE rfl (fF rfl rfl rfl (j0 ab (by omega)) (by rfl) rfl rfl ?_)))))))))
  iterate 2 refine pE rfl ?_
  refine WO.nil (qs ?_)
  try refine aU (d := 6) rfl rfl ?_
  refine W.ret (QF.ar trivial rfl ?_)
  (rw [hg]; rfl)
 have h54 : ¬ s.op = 4 := by simpa using h54
 rw [if_neg h54] at hg hse
 refine W.seq (W.region ?_)
 iterate 2 refine pE rfl ?_
 refine WO.nil (qs (aq rfl (fun h69 => ?_) (fun h69 => ?_)))
 ·
  have h69 : s.op = 9 := by simpa using h69
  rw [if_pos h69] at hg
  refine W.seq (W.region (pE rfl (pE rfl (pu (ae rfl rfl rfl (sg ab s (by omega)) rfl) rfl ?_))))
  iterate 4 refine pE rfl ?_
  refine WO.nil (qs ?_)
  try refine aU (d := 6) rfl rfl ?_
  refine W.ret (au (an (QF.ar trivial rfl ?_)))
  (rw [hg]; rfl)
 have h69 : ¬ s.op = 9 := by simpa using h69
 rw [if_neg h69] at hg
 iterate 2 refine W.seq ?_
 refine W.region ?_
 iterate 2 refine pE rfl ?_
 refine WO.nil (qs (aq rfl (fun h76 => ?_) (fun h76 => ?_)))
 ·
  have h76' : s.op = 6 ∨ s.op = 7 ∨ s.op = 8 := by simp_all
  rw [if_pos h76'] at hg
  refine W.skip (qs (W.cE rfl (W.seq (W.region ?_))))
  iterate 2 refine pE rfl ?_
  refine pE rfl (pu (ae rfl rfl rfl (mc d ab s hc ht) rfl) rfl ?_)
  iterate 4 refine pE rfl ?_
  refine WO.nil (qs ?_)
  try refine aU (d := 6) rfl rfl ?_
  refine W.ret (au (an (QF.ar trivial rfl ?_)))
  (rw [hg]; rfl)
 have h76a := h76
 refine W.seq (W.region ?_)
 iterate 2 refine pE rfl ?_
 refine WO.nil (qs (aq rfl (fun h76 => ?_) (fun h76 => ?_)))
 ·
  have h76' : s.op = 6 ∨ s.op = 7 ∨ s.op = 8 := by simp_all
  rw [if_pos h76'] at hg
  refine W.skip (qs (W.cE rfl (W.seq (W.region ?_))))
  iterate 2 refine pE rfl ?_
  refine pE rfl (pu (ae rfl rfl rfl (mc d ab s hc ht) rfl) rfl ?_)
  iterate 4 refine pE rfl ?_
  refine WO.nil (qs ?_)
  try refine aU (d := 6) rfl rfl ?_
  refine W.ret (au (an (QF.ar trivial rfl ?_)))
  (rw [hg]; rfl)
 have h76a := h76
 refine W.region ?_
 iterate 2 refine pE rfl ?_
 refine WO.nil (qs (aq rfl (fun h76 => ?_) (fun h76 => ?_)))
 ·
  have h76' : s.op = 6 ∨ s.op = 7 ∨ s.op = 8 := by simp_all
  rw [if_pos h76'] at hg
  refine W.seq (W.region ?_)
  iterate 2 refine pE rfl ?_
  refine pE rfl (pu (ae rfl rfl rfl (mc d ab s hc ht) rfl) rfl ?_)
  iterate 4 refine pE rfl ?_
  refine WO.nil (qs ?_)
  try refine aU (d := 6) rfl rfl ?_
  refine W.ret (au (an (QF.ar trivial rfl ?_)))
  (rw [hg]; rfl)
 have h76a := h76
 refine W.skip (a0 (qs (W.seq (W.region (pE rfl (fF rfl rfl rfl (j0 ab (by omega)) (by rfl) rfl rfl ?_))))))
 iterate 2 refine pE rfl ?_
 refine WO.nil (qs ?_)
 try refine aU (d := 6) rfl rfl ?_
 refine W.ret (QF.ar trivial rfl ?_)
 (rw [hg, if_neg (by simp_all)]; rfl)
end Go.Proofs.Ytjenenllmjlimaa
namespace Go.Proofs.Ytjenenllmjlimaa
open Go.Ab Go.Tb
set_option maxRecDepth 10000
attribute [local irreducible] W WO Pu QS QB QL QF QV bO CH QE
end Go.Proofs.Ytjenenllmjlimaa
namespace Go.Proofs.Ytjenenllmjlimaa
open Go.Ab Go.Tb
set_option maxRecDepth 10000
attribute [local irreducible] W WO Pu QS QB QL QF QV bO CH QE
end Go.Proofs.Ytjenenllmjlimaa
namespace Go.Proofs.Ytjenenllmjlimaa
open Go.Ab Go.Tb
set_option maxRecDepth 10000
attribute [local irreducible] W WO Pu QS QB QL QF QV bO CH QE
def v0 : aD := ⟨0, 0, B #[]⟩
def e0 : Ex := .mk 0 (B #[]) v0 []
end Go.Proofs.Ytjenenllmjlimaa
namespace Go.Proofs.Ytjenenllmjlimaa
open Go.Ab Go.Tb
set_option maxRecDepth 10000
attribute [local irreducible] W WO Pu QS QB QL QF QV bO CH QE
end Go.Proofs.Ytjenenllmjlimaa
namespace Go.Proofs.Ytjenenllmjlimaa
open Go.Ab Go.Tb
set_option maxRecDepth 10000
attribute [local irreducible] W WO Pu QS QB QL QF QV bO CH QE
end Go.Proofs.Ytjenenllmjlimaa
namespace Go.Proofs.Ytjenenllmjlimaa
open Go.Ab Go.Tb
set_option maxRecDepth 10000
attribute [local irreducible] W WO Pu QS QB QL QF QV bO CH QE
end Go.Proofs.Ytjenenllmjlimaa
namespace Go.Proofs.Ytjenenllmjlimaa
open Go.Ab Go.Tb
set_option maxRecDepth 10000
attribute [local irreducible] W WO Pu QS QB QL QF QV bO CH QE
end Go.Proofs.Ytjenenllmjlimaa
namespace Go.Proofs.Ytjenenllmjlimaa
open Go.Ab Go.Tb
set_option maxRecDepth 10000
attribute [local irreducible] W WO Pu QS QB QL QF QV bO CH QE
end Go.Proofs.Ytjenenllmjlimaa
namespace Go.Proofs.Ytjenenllmjlimaa
open Go.Ab Go.Tb
set_option maxRecDepth 10000
attribute [local irreducible] W WO Pu QS QB QL QF QV bO CH QE
end Go.Proofs.Ytjenenllmjlimaa
namespace Go.Proofs.Ytjenenllmjlimaa
open Go.Ab Go.Tb
set_option maxRecDepth 10000
attribute [local irreducible] W WO Pu QS QB QL QF QV bO CH QE
theorem sE (n : Int) : aw Try.prog 87 [.d (.v (.int .i64 n))] (.d (.v (.bool false))) 0 := by
 refine aw.a8 (n := 6) (ts := [2]) Try.func87 (by kernel_rfl) rfl Try.ntmps87 Try.results87 rfl rfl fun C hC hG => ?_
 refine W.seq (W.region (pE rfl (WO.nil (qs (W.seq (W.region ?_))))))
 iterate 4 refine pE rfl ?_
 refine WO.nil (qs (W.ret (QF.ar trivial rfl ?_)))
 simp [norm, az]
theorem sN (n : Int) : aw Try.prog 68 [.d (.v (.int .i64 n))] (.d (.v (.bool false))) 0 := by
 refine aw.a8 (n := 6) (ts := [2]) Try.func68 (by kernel_rfl) rfl Try.ntmps68 Try.results68 rfl rfl fun C hC hG => ?_
 refine W.seq (W.region (pE rfl (WO.nil (qs (W.seq (W.region ?_))))))
 iterate 4 refine pE rfl ?_
 refine WO.nil (qs (W.ret (QF.ar trivial rfl ?_)))
 simp [norm, az]
theorem sL (n : ByteArray) : aw Try.prog 88 [.d (.v (.string n))] (.d (.v (.bool false))) 0 := by
 refine aw.a8 (n := 6) (ts := [2]) Try.func88 (by kernel_rfl) rfl Try.ntmps88 Try.results88 rfl rfl fun C hC hG => ?_
 refine W.seq (W.region (pE rfl (WO.nil (qs (W.seq (W.region ?_))))))
 iterate 4 refine pE rfl ?_
 refine WO.nil (qs (W.ret (QF.ar trivial rfl ?_)))
 simp [norm, az]
theorem wD (a b : Int) : aw Try.prog 66 [.d (.v (.int .i64 a)), .d (.v (.int .i64 b))] (.d (.v (.int .i64 (cG a b)))) 0 := by
 refine aw.a8 (n := 20) (ts := [4]) Try.func66 (by kernel_rfl) rfl Try.ntmps66 Try.results66 rfl rfl fun C hC hG => ?_
 refine W.seq (W.region (pE rfl (WO.nil (qs (W.seq (W.region (pE rfl (pu (ae rfl rfl rfl (sE ..) rfl) rfl ?_))))))))
 refine pE rfl (WO.nil (qs (W.seq (W.region (pE rfl (pu (ae rfl rfl rfl (sE ..) rfl) rfl ?_))))))
 refine pE rfl (WO.nil (qs ?_))
 iterate 2 refine W.seq ?_
 refine W.region (pE rfl (WO.nil (qs (aq rfl (fun h11 => ?_) (fun h11 => ?_)))))
 ·
  iterate 2 refine W.seq ?_
  refine W.region (pE rfl (WO.nil (qs (aq rfl (fun h12 => ?_) (fun h12 => ?_)))))
  ·
   refine W.seq (W.region (pE rfl (WO.nil (qs (W.ret (an (an (QF.ar trivial rfl ?_))))))))
   simp only [norm, az] at *; grind [cG]
  refine W.skip (qs (W.seq (W.region (pE rfl (WO.nil (qs (W.ret (an (QF.ar trivial rfl ?_)))))))))
  simp only [norm, az] at *; grind [cG]
 refine W.skip (qs ?_)
 iterate 2 refine W.seq ?_
 refine W.region (pE rfl (WO.nil (qs (aq rfl (fun h13 => ?_) (fun h13 => ?_)))))
 ·
  refine W.seq (W.region (pE rfl (WO.nil (qs (W.ret (an (QF.ar trivial rfl ?_)))))))
  simp only [norm, az] at *; grind [cG]
 refine W.skip (qs ?_)
 iterate 2 refine W.seq ?_
 refine W.region ?_
 iterate 3 refine pE rfl ?_
 refine WO.nil (qs (aq rfl (fun h16 => ?_) (fun h16 => ?_)))
 ·
  refine W.seq (W.region (pE rfl (WO.nil (qs (W.ret (an (QF.ar trivial rfl ?_)))))))
  simp only [norm, az] at *; grind [cG]
 refine W.skip (qs ?_)
 iterate 2 refine W.seq ?_
 refine W.region ?_
 iterate 3 refine pE rfl ?_
 refine WO.nil (qs (aq rfl (fun h19 => ?_) (fun h19 => ?_)))
 ·
  refine W.seq (W.region (pE rfl (WO.nil (qs (W.ret (an (QF.ar trivial rfl ?_)))))))
  simp only [norm, az] at *; grind [cG]
 refine W.skip (qs (W.seq (W.region (pE rfl (WO.nil (qs (W.ret (QF.ar trivial rfl ?_))))))))
 simp only [norm, az] at *; grind [cG]
theorem sT (a b : Int) : aw Try.prog 49 [.d (.v (.int .i64 a)), .d (.v (.int .i64 b))] (.d (.v (.int .i64 (cG a b)))) 0 := by
 refine aw.a8 (n := 20) (ts := [4]) Try.func49 (by kernel_rfl) rfl Try.ntmps49 Try.results49 rfl rfl fun C hC hG => ?_
 refine W.seq (W.region (pE rfl (WO.nil (qs (W.seq (W.region (pE rfl (pu (ae rfl rfl rfl (sN ..) rfl) rfl ?_))))))))
 refine pE rfl (WO.nil (qs (W.seq (W.region (pE rfl (pu (ae rfl rfl rfl (sN ..) rfl) rfl ?_))))))
 refine pE rfl (WO.nil (qs ?_))
 iterate 2 refine W.seq ?_
 refine W.region (pE rfl (WO.nil (qs (aq rfl (fun h11 => ?_) (fun h11 => ?_)))))
 ·
  iterate 2 refine W.seq ?_
  refine W.region (pE rfl (WO.nil (qs (aq rfl (fun h12 => ?_) (fun h12 => ?_)))))
  ·
   refine W.seq (W.region (pE rfl (WO.nil (qs (W.ret (an (an (QF.ar trivial rfl ?_))))))))
   simp only [norm, az] at *; grind [cG]
  refine W.skip (qs (W.seq (W.region (pE rfl (WO.nil (qs (W.ret (an (QF.ar trivial rfl ?_)))))))))
  simp only [norm, az] at *; grind [cG]
 refine W.skip (qs ?_)
 iterate 2 refine W.seq ?_
 refine W.region (pE rfl (WO.nil (qs (aq rfl (fun h13 => ?_) (fun h13 => ?_)))))
 ·
  refine W.seq (W.region (pE rfl (WO.nil (qs (W.ret (an (QF.ar trivial rfl ?_)))))))
  simp only [norm, az] at *; grind [cG]
 refine W.skip (qs ?_)
 iterate 2 refine W.seq ?_
 refine W.region ?_
 iterate 3 refine pE rfl ?_
 refine WO.nil (qs (aq rfl (fun h16 => ?_) (fun h16 => ?_)))
 ·
  refine W.seq (W.region (pE rfl (WO.nil (qs (W.ret (an (QF.ar trivial rfl ?_)))))))
  simp only [norm, az] at *; grind [cG]
 refine W.skip (qs ?_)
 iterate 2 refine W.seq ?_
 refine W.region ?_
 iterate 3 refine pE rfl ?_
 refine WO.nil (qs (aq rfl (fun h19 => ?_) (fun h19 => ?_)))
 ·
  refine W.seq (W.region (pE rfl (WO.nil (qs (W.ret (an (QF.ar trivial rfl ?_)))))))
  simp only [norm, az] at *; grind [cG]
 refine W.skip (qs (W.seq (W.region (pE rfl (WO.nil (qs (W.ret (QF.ar trivial rfl ?_))))))))
 simp only [norm, az] at *; grind [cG]
theorem xa (a b : ByteArray) : aw Try.prog 67 [.d (.v (.string a)), .d (.v (.string b))] (.d (.v (.int .i64 (eU a b)))) 0 := by
 refine aw.a8 (n := 20) (ts := [4]) Try.func67 (by kernel_rfl) rfl Try.ntmps67 Try.results67 rfl rfl fun C hC hG => ?_
 refine W.seq (W.region (pE rfl (WO.nil (qs (W.seq (W.region (pE rfl (pu (ae rfl rfl rfl (sL ..) rfl) rfl ?_))))))))
 refine pE rfl (WO.nil (qs (W.seq (W.region (pE rfl (pu (ae rfl rfl rfl (sL ..) rfl) rfl ?_))))))
 refine pE rfl (WO.nil (qs ?_))
 iterate 2 refine W.seq ?_
 refine W.region (pE rfl (WO.nil (qs (aq rfl (fun h11 => ?_) (fun h11 => ?_)))))
 ·
  iterate 2 refine W.seq ?_
  refine W.region (pE rfl (WO.nil (qs (aq rfl (fun h12 => ?_) (fun h12 => ?_)))))
  ·
   refine W.seq (W.region (pE rfl (WO.nil (qs (W.ret (an (an (QF.ar trivial rfl ?_))))))))
   simp only [norm, az] at *; grind [eU]
  refine W.skip (qs (W.seq (W.region (pE rfl (WO.nil (qs (W.ret (an (QF.ar trivial rfl ?_)))))))))
  simp only [norm, az] at *; grind [eU]
 refine W.skip (qs ?_)
 iterate 2 refine W.seq ?_
 refine W.region (pE rfl (WO.nil (qs (aq rfl (fun h13 => ?_) (fun h13 => ?_)))))
 ·
  refine W.seq (W.region (pE rfl (WO.nil (qs (W.ret (an (QF.ar trivial rfl ?_)))))))
  simp only [norm, az] at *; grind [eU]
 refine W.skip (qs ?_)
 iterate 2 refine W.seq ?_
 refine W.region ?_
 iterate 3 refine pE rfl ?_
 refine WO.nil (qs (aq rfl (fun h16 => ?_) (fun h16 => ?_)))
 ·
  refine W.seq (W.region (pE rfl (WO.nil (qs (W.ret (an (QF.ar trivial rfl ?_)))))))
  simp only [norm, az] at *; grind [eU]
 refine W.skip (qs ?_)
 iterate 2 refine W.seq ?_
 refine W.region ?_
 iterate 3 refine pE rfl ?_
 refine WO.nil (qs (aq rfl (fun h19 => ?_) (fun h19 => ?_)))
 ·
  refine W.seq (W.region (pE rfl (WO.nil (qs (W.ret (an (QF.ar trivial rfl ?_)))))))
  simp only [norm, az] at *; grind [eU]
 refine W.skip (qs (W.seq (W.region (pE rfl (WO.nil (qs (W.ret (QF.ar trivial rfl ?_))))))))
 simp only [norm, az] at *; grind [eU]
theorem oJ (a b : Int) : aw Try.prog 51 [.d (.v (.int .i64 a)), .d (.v (.int .i64 b))] (.d (.v (.int .i64 (cG a b)))) 0 := by
 refine aw.a8 (n := 13) (ts := [4]) Try.func51 (by kernel_rfl) rfl Try.ntmps51 Try.results51 rfl rfl fun C hC hG => ?_
 refine W.seq (W.region (pE rfl (WO.nil (qs (W.seq (W.block (W.seq (W.region ?_))))))))
 iterate 4 refine pE rfl ?_
 refine WO.nil (qs (aq rfl (fun h5 => ?_) (fun h5 => ?_)))
 ·
  refine W.seq (W.region (pE rfl (WO.nil (qs (W.ret (au (an (QF.ar trivial rfl ?_))))))))
  simp only [norm, az] at *; grind [cG]
 refine W.seq (W.region ?_)
 iterate 4 refine pE rfl ?_
 refine WO.nil (qs (aq rfl (fun h9 => ?_) (fun h9 => ?_)))
 ·
  refine W.seq (W.region (pE rfl (WO.nil (qs (W.ret (au (an (QF.ar trivial rfl ?_))))))))
  simp only [norm, az] at *; grind [cG]
 refine W.skip (a0 (qs (W.seq (W.region (pE rfl (WO.nil (qs (W.ret (QF.ar trivial rfl ?_)))))))))
 simp only [norm, az] at *; grind [cG]
theorem vN (a b : aD) : aw Try.prog 48 [.ag a.c, .ag b.c] (.d (.v (.int .i64 (cR a b)))) 0 := by
 refine aw.a8 (n := 39) (ts := [4]) Try.func48 (by kernel_rfl) rfl Try.ntmps48 Try.results48 rfl rfl fun C hC hG => ?_
 refine W.seq (W.region (bM rfl rfl rfl (bM rfl rfl rfl (pE rfl (WO.nil (qs (W.seq (W.block (W.seq (W.region (pE rfl (pE rfl (pE rfl ?_)))))))))))))
 refine pE rfl ?_
 iterate 2 refine pE rfl ?_
 refine WO.nil (qs (aq rfl (fun h5 => ?_) (fun h5 => ?_)))
 ·
  refine W.seq (W.region (pE rfl (pE rfl (pE rfl (pE rfl (pu (ae rfl rfl rfl (wD ..) rfl) rfl ?_))))))
  refine pE rfl (WO.nil (qs (W.ret (au (an (QF.ar trivial rfl ?_))))))
  simp only [norm, az] at *; grind [cR]
 refine W.seq (W.region (pE rfl (pE rfl ?_)))
 iterate 2 refine pE rfl ?_
 refine WO.nil (qs (aq rfl (fun h16 => ?_) (fun h16 => ?_)))
 ·
  refine W.seq (W.region (pE rfl (pE rfl (pE rfl (pE rfl (pu (ae rfl rfl rfl (xa ..) rfl) rfl ?_))))))
  refine pE rfl (WO.nil (qs (W.ret (au (an (QF.ar trivial rfl ?_))))))
  simp only [norm, az] at *; grind [cR]
 refine W.seq ?_
 apply aI; (case hb => rfl)
 ·
  refine pE rfl (pE rfl ?_)
  iterate 2 refine pE rfl ?_
  apply aC; (case hj => rfl); (case hl => rfl)
  ·
   iterate 3 refine ay rfl rfl rfl rfl ?_
   iterate 2 refine pE rfl ?_
   refine WO.nil (aA rfl rfl rfl)
  refine ah rfl rfl (pE rfl (ah rfl rfl (pE rfl (ah rfl rfl ?_))))
  iterate 3 refine pE rfl ?_
  refine WO.nil (aA rfl rfl rfl)
 refine qs (aq rfl (fun h25 => ?_) (fun h25 => ?_))
 ·
  refine W.seq (W.region (pE rfl (pE rfl (pE rfl (pE rfl (pu (ae rfl rfl rfl (sT ..) rfl) rfl ?_))))))
  refine pE rfl (WO.nil (qs (W.ret (au (an (QF.ar trivial rfl ?_))))))
  simp only [norm, az] at *; grind [cR]
 refine W.skip (a0 (qs (W.seq (W.region (pE rfl (WO.nil (qs (W.ret (QF.ar trivial rfl ?_)))))))))
 simp only [norm, az] at *; grind [cR]
theorem uT (a b : aD) : aw Try.prog 37 [.ag a.c, .ag b.c] (.d (.v (.int .i64 (cR a b)))) 0 := by
 refine aw.a8 (n := 47) (ts := [4]) Try.func37 (by kernel_rfl) rfl Try.ntmps37 Try.results37 rfl rfl fun C hC hG => ?_
 refine W.seq (W.region (bM rfl rfl rfl (bM rfl rfl rfl (pE rfl (WO.nil (qs (W.seq (W.block (W.seq (W.region (pE rfl (pE rfl (pE rfl ?_)))))))))))))
 refine pE rfl ?_
 iterate 2 refine pE rfl ?_
 refine WO.nil (qs (aq rfl (fun h5 => ?_) (fun h5 => ?_)))
 ·
  refine W.seq (W.region (pE rfl (pE rfl (pE rfl (pE rfl (pu (ae rfl rfl rfl (oJ ..) rfl) rfl ?_))))))
  refine pE rfl (WO.nil (qs (W.ret (au (an (QF.ar trivial rfl ?_))))))
  simp only [norm, az] at *; grind [cR, eU, js]
 refine W.seq ?_
 apply aI; (case hb => rfl)
 ·
  refine pE rfl (pE rfl ?_)
  iterate 2 refine pE rfl ?_
  apply aC; (case hj => rfl); (case hl => rfl)
  ·
   iterate 3 refine ay rfl rfl rfl rfl ?_
   iterate 2 refine pE rfl ?_
   refine WO.nil (aA rfl rfl rfl)
  refine ah rfl rfl (pE rfl (ah rfl rfl (pE rfl (ah rfl rfl ?_))))
  iterate 3 refine pE rfl ?_
  refine WO.nil (aA rfl rfl rfl)
 refine qs (aq rfl (fun h16 => ?_) (fun h16 => ?_))
 ·
  refine W.seq (W.region (pE rfl (pE rfl (pE rfl (pE rfl (pu (ae rfl rfl rfl (oJ ..) rfl) rfl ?_))))))
  refine pE rfl (WO.nil (qs (W.ret (au (an (QF.ar trivial rfl ?_))))))
  simp only [norm, az] at *; grind [cR, eU, js]
 refine W.seq ?_
 apply aI; (case hb => rfl)
 ·
  refine pE rfl (pE rfl ?_)
  iterate 2 refine pE rfl ?_
  apply aC; (case hj => rfl); (case hl => rfl)
  ·
   iterate 5 refine ay rfl rfl rfl rfl ?_
   iterate 2 refine pE rfl ?_
   refine WO.nil (aA rfl rfl rfl)
  refine ah rfl rfl (pE rfl (ah rfl rfl (pE rfl (ah rfl rfl (pE rfl (ah rfl rfl (pE rfl (ah rfl rfl ?_))))))))
  iterate 3 refine pE rfl ?_
  refine WO.nil (aA rfl rfl rfl)
 refine qs (aq rfl (fun h30 => ?_) (fun h30 => ?_))
 ·
  refine W.seq (W.region (pE rfl (WO.nil (qs (W.ret (au (an (QF.ar trivial rfl ?_))))))))
  simp only [norm, az] at *; grind [cR, eU, js]
 refine W.seq (W.region (pE rfl (pE rfl (pE rfl (pE rfl ?_)))))
 iterate 2 refine pE rfl ?_
 refine WO.nil (qs (aq rfl (fun h41 => ?_) (fun h41 => ?_)))
 ·
  refine W.seq (W.region (pE rfl (WO.nil (qs (W.ret (au (an (QF.ar trivial rfl ?_))))))))
  simp only [norm, az] at *; grind [cR, eU, js]
 refine W.skip (a0 (qs (W.seq (W.region (pE rfl (WO.nil (qs (W.ret (QF.ar trivial rfl ?_)))))))))
 simp only [norm, az] at *; grind [cR, eU, js]
end Go.Proofs.Ytjenenllmjlimaa
namespace Go.Proofs.Ytjenenllmjlimaa
open Go.Ab Go.Tb
set_option maxRecDepth 10000
attribute [local irreducible] W WO Pu QS QB QL QF QV bO CH QE
theorem ml (l : List aD) : ∀ (x : List D), x ∈ l.map aD.c → x.length = 3 := by
 intro x hx
 obtain ⟨y, _, rfl⟩ := List.mem_map.1 hx
 rfl
theorem u4 (l : List aD) (h : l.length ≤ 100000) : cU Try.prog 29 [.d (.sl (l.map aD.c))] [] 0 (.xs 0 (l.map aD.c)) [] 1 := by
 refine cU.fa aa (n := 8) (rs := [.tmp 2]) Try.func29 (by kernel_rfl) rfl Try.ntmps29 Try.results29 rfl rfl fun C hC hG => ?_
 refine W.seq (W.region (pE rfl (WO.nil (qs ?_))))
 iterate 2 refine W.seq ?_
 refine W.region (pE rfl (lz aa rfl rfl rfl rfl rfl (fun b4 hb4 => ?_)))
 refine WO.nil (qs (aq rfl (fun h4 => ?_) (fun h4 => ?_)))
 ·
  refine W.seq (W.region (pE rfl (WO.nil (qs ?_))))
  try refine W.nk (d := 2) rfl rfl ?_
  refine W.ret (an (fQ.end aa [0] trivial rfl rfl rfl rfl ?_ ?_))
  · exact trivial
  have hl0 := hb4 h4
  rw [hl0]; rfl
 refine W.skip (qs (W.seq (W.region (xz (es := []) aa rfl rfl rfl rfl rfl rfl rfl (fun x hx => nomatch hx) rfl ?_))))
 refine pE rfl (iL (es2 := l.map aD.c) aa rfl rfl rfl rfl rfl rfl rfl rfl rfl rfl (List.nil_append _) (by rw [List.nil_append]; exact ml _) (by show (0 + (l.map aD.c).length) * 32 ≤ _; rw [List.length_map]; omega) rfl ?_)
 refine pE rfl (WO.nil (qs ?_))
 try refine W.nk (d := 2) rfl rfl ?_
 refine W.ret (fQ.end aa [1] trivial rfl rfl rfl rfl ?_ ?_)
 · exact trivial
 rfl
theorem kv (l : List aD) (h : l.length ≤ 100000) : aw Try.prog 29 [.d (.sl (l.map aD.c))] (.own 0 (l.map aD.c)) 1 := by
 refine aw.a8 (n := 8) (ts := [2]) Try.func29 (by kernel_rfl) rfl Try.ntmps29 Try.results29 rfl rfl fun C hC hG => ?_
 refine W.seq (W.region (pE rfl (WO.nil (qs ?_))))
 iterate 2 refine W.seq ?_
 refine W.region (pE rfl (lz aa rfl rfl rfl rfl rfl (fun b4 hb4 => ?_)))
 refine WO.nil (qs (aq rfl (fun h4 => ?_) (fun h4 => ?_)))
 ·
  refine W.seq (W.region (pE rfl (WO.nil (qs ?_))))
  try refine aU (d := 2) rfl rfl ?_
  refine W.ret (an (QF.mV 0 trivial rfl (by simp) ?_))
  have hl0 := hb4 h4
  rw [hl0]; rfl
 refine W.skip (qs (W.seq (W.region (re aa rfl rfl rfl rfl rfl rfl rfl rfl (by rfl) ?_))))
 refine pE rfl (fW (l := []) (fn := aD.c) aa rfl rfl rfl rfl rfl rfl rfl rfl rfl rfl (fun _ => rfl) (by show (0 + l.length) * 32 ≤ _; omega) ?_)
 refine pE rfl (WO.nil (qs ?_))
 try refine aU (d := 2) rfl rfl ?_
 refine W.ret (QF.mV 1 trivial rfl (by simp) ?_)
 rfl
theorem qS (l : List ByteArray) (h : l.length ≤ 100000) : aw Try.prog 25 [.d (.sl (l.map sc))] (.own 0 (l.map sc)) 1 := by
 refine aw.a8 (n := 8) (ts := [2]) Try.func25 (by kernel_rfl) rfl Try.ntmps25 Try.results25 rfl rfl fun C hC hG => ?_
 refine W.seq (W.region (pE rfl (WO.nil (qs ?_))))
 iterate 2 refine W.seq ?_
 refine W.region (pE rfl (lz aa rfl rfl rfl rfl rfl (fun b4 hb4 => ?_)))
 refine WO.nil (qs (aq rfl (fun h4 => ?_) (fun h4 => ?_)))
 ·
  refine W.seq (W.region (pE rfl (WO.nil (qs ?_))))
  try refine aU (d := 2) rfl rfl ?_
  refine W.ret (an (QF.mV 0 trivial rfl (by simp) ?_))
  have hl0 := hb4 h4
  rw [hl0]; rfl
 refine W.skip (qs (W.seq (W.region (re aa rfl rfl rfl rfl rfl rfl rfl rfl (by rfl) ?_))))
 refine pE rfl (fW (l := []) (fn := sc) aa rfl rfl rfl rfl rfl rfl rfl rfl rfl rfl (fun _ => rfl) (by show (0 + l.length) * 16 ≤ _; omega) ?_)
 refine pE rfl (WO.nil (qs ?_))
 try refine aU (d := 2) rfl rfl ?_
 refine W.ret (QF.mV 1 trivial rfl (by simp) ?_)
 rfl
theorem kl {a b : aD} : (decide (a.kind = b.kind) && (decide (a.n = b.n) && decide (a.s = b.s))) = decide (a = b) := by
 obtain ⟨x, y, z⟩ := a
 obtain ⟨x', y', z'⟩ := b
 simp only [aD.mk.injEq]
 by_cases h1 : x = x' <;> by_cases h2 : y = y' <;> by_cases h3 : z = z' <;> simp [h1, h2, h3]
theorem uV (l : List aD) (s : aD) : aw Try.prog 62 [.d (.sl (l.map aD.c)), .ag s.c] (.d (.v (.int .i64 (idx (l.findIdx? fun x => decide (s = x)))))) 0 := by
 refine aw.a8 (n := 19) (ts := [4]) Try.func62 (by kernel_rfl) rfl Try.ntmps62 Try.results62 rfl rfl fun C hC hG => ?_
 refine W.seq (W.region (bM rfl rfl rfl (pE rfl (WO.nil (qs ?_)))))
 iterate 2 refine W.seq ?_
 refine W.region ?_
 iterate 3 refine pE rfl ?_
 refine WO.nil (qs (W.block (W.len (t := 0) rfl rfl (fun hlen => ?_))))
 try simp only [List.length_map, Ex.aF] at hlen
 refine W.aW (ι := {x : Nat // match x with | k => k ≤ l.length ∧ bH (fun x => decide (s = x)) l k})
  (fun x => match x.1 with | k => [(3, .ptr 0 0), (8, .d (.v (.int .i64 ((k : Nat) : Int))))]) [(0, _), (7, _)]
  (fun x => match x.1 with | k => [(0, s.c.map A.d)]) [] [] 1 (fun x => match x.1 with | k => l.length - k)
  [0] ⟨0, ?_⟩ rfl ?_ ⟨rfl, rfl, rfl, rfl, trivial⟩ ?_ trivial rfl ?_
 · exact ⟨Nat.zero_le _, bH.zero⟩
 · repeat' first | exact trivial | refine ⟨rfl, ?_⟩
 · repeat' first | exact trivial | refine ⟨rfl, ?_⟩
 rintro ⟨k, hk, hI⟩
 show W _ _ _ _ _ ⟨[(3, .ptr 0 0), (8, .d (.v (.int .i64 ((k : Nat) : Int)))), (0, _), (7, _)], [(0, s.c.map A.d)], [], 1⟩
 refine W.seq (W.region (pE rfl (WO.nil (qs (W.seq (bg (l := l) (k := k) rfl (by simp [Ex.aF, aK]) hk (fun x hx hd hlt => ?_) (fun he hd => ?_)))))))
 ·
  refine W.skip (qs (W.seq (W.block (W.seq (W.region ?_)))))
  iterate 2 refine pE rfl ?_
  refine WO.nil (qs (W.seq (W.bE aa (by kernel_rfl) ?_)))
  refine ao (ev aa rfl) rfl ?_
  iterate 2 refine ao (ev aa rfl) rfl ?_
  refine ao (indexAddr aa rfl rfl rfl rfl rfl rfl (Int.natCast_nonneg _) (aH hx) rfl) rfl ?_
  refine ao (ev aa rfl) rfl ?_
  refine ao (ev aa rfl) rfl ?_
  refine CH.nil ?_
  refine qs (aq rfl (fun h16 => ?_) (fun h16 => ?_))
  ·
   have h16 : decide (s = x) = true := by rw [← kl]; simpa using h16
   refine W.seq (W.region ?_)
   iterate 2 refine pE rfl ?_
   refine WO.nil (qs (W.ret (au (an (bw (au (an (QF.ar trivial rfl ?_))))))))
   simp only [norm, az]; rw [hI.found hx h16]; rfl
  have h16 : decide (s = x) = false := by rw [← kl]; simpa using h16
  refine W.skip (a0 (qs (W.region ?_)))
  iterate 2 refine pE rfl ?_
  refine WO.nil (W.aY [0] ⟨k + 1, ?_⟩ ?_ rfl ?_ ⟨rfl, rfl, rfl, rfl, trivial⟩ ?_ trivial rfl)
  · exact ⟨hlt, hI.step hx h16⟩
  · dsimp only; omega
  · repeat' first | exact trivial | refine ⟨rfl, ?_⟩ | refine ⟨aE (by assumption) (by assumption), ?_⟩
  repeat' first | exact trivial | refine ⟨rfl, ?_⟩
 refine W.exit (aN (aR (aO (qs (W.seq (W.region (pE rfl (WO.nil (qs (W.ret (QF.ar trivial rfl ?_)))))))))))
 simp only [norm, az]; rw [hI.end_ he]; rfl
theorem rf (l : List aD) (s : aD) : aw Try.prog 40 [.d (.sl (l.map aD.c)), .ag s.c] (.d (.v (.bool (l.any fun x => decide (s = x))))) 0 := by
 refine aw.a8 (n := 9) (ts := [4]) Try.func40 (by kernel_rfl) rfl Try.ntmps40 Try.results40 rfl rfl fun C hC hG => ?_
 refine W.seq (W.region (bM rfl rfl rfl (pE rfl (WO.nil (qs (W.seq (W.region (pE rfl (pE rfl (pu (ae rfl rfl rfl (uV l s) rfl) rfl ?_))))))))))
 iterate 2 refine pE rfl ?_
 refine WO.nil (qs (W.ret (QF.ar trivial rfl ?_)))
 simp only [norm, az]; rw [← dh]
theorem mD (a b : List aD) : aw Try.prog 35 [.d (.sl (a.map aD.c)), .d (.sl (b.map aD.c))] (.d (.v (.bool (decide (a = b))))) 0 := by
 refine aw.a8 (n := 26) (ts := [4]) Try.func35 (by kernel_rfl) rfl Try.ntmps35 Try.results35 rfl rfl fun C hC hG => ?_
 refine W.seq (W.region (pE rfl (WO.nil (qs ?_))))
 iterate 2 refine W.seq ?_
 refine W.region ?_
 iterate 5 refine pE rfl ?_
 refine WO.nil (qs (aq rfl (fun h10 => ?_) (fun h10 => ?_)))
 ·
  have hg : decide (a = b) = false := decide_eq_false (by rintro rfl; simp at h10)
  refine W.seq (W.region (pE rfl (WO.nil (qs (W.ret (an (QF.ar trivial rfl ?_)))))))
  rw [hg]; rfl
 have hl2 : a.length = b.length := by simp at h10; omega
 refine W.skip (qs ?_)
 iterate 2 refine W.seq ?_
 refine W.region ?_
 iterate 3 refine pE rfl ?_
 refine WO.nil (qs (W.block (W.len (t := 0) rfl rfl (fun hlen => ?_))))
 try simp only [List.length_map, Ex.aF] at hlen
 refine W.aW (ι := {x : Nat // match x with | k => k ≤ a.length ∧ (a.drop k = b.drop k ↔ a = b)})
  (fun x => match x.1 with | k => [(13, .d (.v (.int .i64 ((k : Nat) : Int))))]) [(0, _), (1, _), (12, _)]
  (fun x => match x.1 with | k => []) [] [] 0 (fun x => match x.1 with | k => a.length - k)
  [] ⟨0, ?_⟩ rfl ?_ ⟨rfl, rfl, rfl, rfl, rfl, rfl, trivial⟩ ?_ trivial rfl ?_
 · exact ⟨Nat.zero_le _, by simp⟩
 · repeat' first | exact trivial | refine ⟨rfl, ?_⟩
 · repeat' exact trivial
 rintro ⟨k, hk, hI⟩
 show W _ _ _ _ _ ⟨[(13, .d (.v (.int .i64 ((k : Nat) : Int)))), (0, _), (1, _), (12, _)], [], [], 0⟩
 refine W.seq (W.region (pE rfl (WO.nil (qs (W.seq (bg (l := a) (k := k) rfl (by simp [Ex.aF, aK]) hk (fun x hx hd hlt => ?_) (fun he hd => ?_)))))))
 ·
  obtain ⟨y, hy⟩ : ∃ y, b[k]? = some y := ⟨b[k]'(by omega), by simp⟩
  have hd2 : b.drop k = y :: b.drop (k + 1) := by
   have hlt2 : k < b.length := by omega
   have := List.drop_eq_getElem_cons hlt2
   rw [this, (List.getElem?_eq_some_iff.1 hy).2]
  rw [hd, hd2] at hI
  refine W.skip (qs (W.seq (W.block (W.seq (W.region ?_)))))
  iterate 2 refine pE rfl ?_
  refine WO.nil (qs (W.seq (W.bE aa (by kernel_rfl) ?_)))
  iterate 2 refine ao (ev aa rfl) rfl ?_
  refine ao (indexAddr aa rfl rfl rfl rfl rfl rfl (Int.natCast_nonneg _) (aH hx) rfl) rfl ?_
  refine ao (ev aa rfl) rfl ?_
  iterate 2 refine ao (ev aa rfl) rfl ?_
  refine ao (indexAddr (l := y.c) aa rfl rfl rfl rfl rfl rfl (Int.natCast_nonneg _) (aH hy) rfl) rfl ?_
  refine ao (ev aa rfl) rfl ?_
  refine ao (ev aa rfl) rfl ?_
  refine CH.nil ?_
  refine qs (aq rfl (fun h24 => ?_) (fun h24 => ?_))
  ·
   have hxy : x ≠ y := by rintro rfl; simp at h24
   have hg : decide (a = b) = false := decide_eq_false (fun q => by have := hI.2 q; simp at this; exact hxy this.1)
   refine W.seq (W.region (pE rfl (WO.nil (qs (W.ret (au (an (bw (au (an (QF.ar trivial rfl ?_)))))))))))
   rw [hg]; rfl
  have hxy : x = y := by
   have := kl (a := x) (b := y)
   exact of_decide_eq_true (by rw [← this]; simpa using h24)
  have hn : a.drop (k + 1) = b.drop (k + 1) ↔ a = b := by rw [← hI, hxy]; simp
  refine W.skip (a0 (qs (W.region ?_)))
  iterate 2 refine pE rfl ?_
  refine WO.nil (W.aY [] ⟨k + 1, ?_⟩ ?_ rfl ?_ ⟨rfl, rfl, rfl, rfl, rfl, rfl, trivial⟩ ?_ trivial rfl)
  · exact ⟨hlt, hn⟩
  · dsimp only; omega
  · repeat' first | exact trivial | refine ⟨aE (by assumption) (by assumption), ?_⟩
  repeat' exact trivial
 have hd2 : b.drop k = [] := List.drop_eq_nil_of_le (by have := congrArg List.length hd; simp at this; omega)
 rw [hd, hd2] at hI
 have hg : decide (a = b) = true := decide_eq_true (hI.1 rfl)
 refine W.exit (aN (aR (aO (qs (W.seq (W.region (pE rfl (WO.nil (qs (W.ret (QF.ar trivial rfl ?_)))))))))))
 rw [hg]; rfl
theorem r9 (a b : List aD) : aw Try.prog 27 [.d (.sl (a.map aD.c)), .d (.sl (b.map aD.c))] (.d (.v (.bool (jj a b)))) 0 := by
 refine aw.a8 (n := 14) (ts := [4]) Try.func27 (by kernel_rfl) rfl Try.ntmps27 Try.results27 rfl rfl fun C hC hG => ?_
 refine W.seq (W.region (pE rfl (WO.nil (qs (W.seq ?_)))))
 apply aI; (case hb => rfl)
 ·
  iterate 2 refine pE rfl ?_
  refine pu (ae rfl rfl rfl (mD a b) rfl) rfl ?_
  refine pE rfl ?_
  apply aC; (case hj => rfl); (case hl => rfl)
  ·
   refine ah rfl rfl (pE rfl (ah rfl rfl (pu (build aa rfl rfl rfl rfl) rfl ?_)))
   refine ah rfl rfl (pu (ae rfl rfl rfl (rf a fg) rfl) rfl ?_)
   refine ah rfl rfl ?_
   iterate 3 refine pE rfl ?_
   refine WO.nil (aA rfl rfl rfl)
  iterate 4 refine ay rfl rfl rfl rfl ?_
  iterate 2 refine pE rfl ?_
  refine WO.nil (aA rfl rfl rfl)
 refine qs (W.ret (QF.ar trivial rfl ?_))
 simp only [norm, az]; unfold jj; first | rfl | (simp only [*]; done) | (simp [*]; done) | skip
end Go.Proofs.Ytjenenllmjlimaa
namespace Go.Proofs.Ytjenenllmjlimaa
open Go.Ab Go.Tb
set_option maxRecDepth 10000
attribute [local irreducible] W WO Pu QS QB QL QF QV bO CH QE
theorem gY (r : List aD) (at_ : List Nat) (h : at_.length ≤ 100000) (hr : ∀ i ∈ at_, i < r.length) : aw Try.prog 28 [.d (.sl (r.map aD.c)), .d (.sl (at_.map nc))] (.d (.sl ((bA r at_).map aD.c))) 0 := by
 refine aw.a8 (n := 23) (ts := [4]) Try.func28 (by kernel_rfl) rfl Try.ntmps28 Try.results28 rfl rfl fun C hC hG => ?_
 refine W.seq (W.region (pE rfl (WO.nil (qs (W.seq (W.region (pE rfl (WO.nil (qs ?_)))))))))
 iterate 2 refine W.seq ?_
 refine W.region ?_
 iterate 3 refine pE rfl ?_
 refine WO.nil (qs (W.block (aU (d := 5) rfl rfl ?_)))
 refine W.len (t := 8) rfl rfl (fun hlen => ?_)
 try simp only [List.length_map, Ex.aF] at hlen
 refine W.aW (ι := {x : Nat × List aD // match x with | (k, out) => k ≤ at_.length ∧ out = bA r (at_.take k)})
  (fun x => match x.1 with | (k, out) => [(5, .own 0 (out.map aD.c)), (10, .d (.v (.int .i64 ((k : Nat) : Int))))]) [(0, _), (8, _), (9, _)]
  (fun x => match x.1 with | (k, out) => []) [] [0] 1 (fun x => match x.1 with | (k, out) => at_.length - k)
  [0] ⟨(0, []), ?_⟩ rfl ?_ ⟨rfl, rfl, rfl, rfl, rfl, rfl, trivial⟩ ?_ trivial rfl ?_
 · exact ⟨Nat.zero_le _, rfl⟩
 · repeat' first | exact trivial | refine ⟨rfl, ?_⟩
 · repeat' exact trivial
 rintro ⟨⟨k, out⟩, hk, hI⟩
 show W _ _ _ _ _ ⟨[(5, .own 0 (out.map aD.c)), (10, .d (.v (.int .i64 ((k : Nat) : Int)))), (0, _), (8, _), (9, _)], [], [0], 1⟩
 refine W.seq (W.region (pE rfl (WO.nil (qs (W.seq (bg (l := at_) (k := k) rfl (by simp [Ex.aF, aK]) hk (fun i hx hd hlt => ?_) (fun he hd => ?_)))))))
 ·
  have hi := hr i (List.mem_of_getElem? hx)
  have hv : r[i]? = some (bb r i) := by unfold bb; rw [List.getD_eq_getElem?_getD, List.getElem?_eq_getElem hi]; rfl
  have hol : out.length ≤ k := by rw [hI]; unfold bA; simp; omega
  refine W.skip (qs (W.seq (W.block (W.seq (W.region (pu (indexAddr aa rfl rfl rfl rfl rfl rfl (Int.natCast_nonneg _) (aH hx) rfl) rfl ?_))))))
  refine pE rfl (pE rfl (WO.nil (qs (W.region ?_))))
  iterate 3 refine pE rfl ?_
  refine pu (indexAddr (l := (bb r i).c) aa rfl rfl rfl rfl rfl rfl (Int.natCast_nonneg _) (aH hv) rfl) rfl ?_
  refine pE rfl (pu (aG aa rfl rfl rfl rfl rfl rfl rfl rfl rfl) rfl ?_)
  refine ck (fn := aD.c) (a := bb r i) aa rfl rfl rfl rfl rfl rfl rfl rfl rfl rfl (fun _ => rfl) (by show (out.length + 1) * 32 ≤ _; omega) ?_
  refine pE rfl (WO.nil (a0 (qs (W.region ?_))))
  iterate 2 refine pE rfl ?_
  refine WO.nil (W.aY [1] ⟨(k + 1, out ++ [bb r i]), ?_⟩ ?_ rfl ?_ ⟨rfl, rfl, rfl, rfl, rfl, rfl, trivial⟩ ?_ trivial rfl)
  · exact ⟨hlt, by rw [hI]; unfold bA; rw [List.take_add_one, hx]; simp⟩
  · dsimp only; omega
  · repeat' first | exact trivial | refine ⟨rfl, ?_⟩ | refine ⟨aE (by assumption) (by assumption), ?_⟩
  repeat' exact trivial
 have hfin : out = bA r at_ := by rw [hI, List.take_of_length_le (by have := congrArg List.length hd; simp at this; omega)]
 refine W.exit (aN (aR (aO (qs (W.seq (W.region ?_))))))
 iterate 2 refine pE rfl ?_
 refine WO.nil (qs (W.ret (QF.ar trivial rfl ?_)))
 simp only [norm, az]; rw [hfin]; rfl
theorem dX (t : bj) (l : List ByteArray) (h : l.length ≤ 100000) : aw Try.prog 23 [.ag t.c, .d (.sl (l.map sc))] (.d (.sl (l.map fun s => ic (idx (cP t.ab s))))) 0 := by
 refine aw.a8 (n := 22) (ts := [4]) Try.func23 (by kernel_rfl) rfl Try.ntmps23 Try.results23 rfl rfl fun C hC hG => ?_
 refine W.seq (W.region (bM rfl rfl rfl (pE rfl (WO.nil (qs (W.seq (W.region (pE rfl (WO.nil (qs ?_))))))))))
 iterate 2 refine W.seq ?_
 refine W.region ?_
 iterate 3 refine pE rfl ?_
 refine WO.nil (qs (W.block (aU (d := 5) rfl rfl ?_)))
 refine W.len (t := 8) rfl rfl (fun hlen => ?_)
 try simp only [List.length_map, Ex.aF] at hlen
 refine W.aW (ι := {x : Nat × List Int // match x with | (k, out) => k ≤ l.length ∧ out = (l.take k).map fun s => idx (cP t.ab s)})
  (fun x => match x.1 with | (k, out) => [(2, .ptr 0 0), (5, .own 1 (out.map ic)), (10, .d (.v (.int .i64 ((k : Nat) : Int))))]) [(8, _), (9, _)]
  (fun x => match x.1 with | (k, out) => [(0, t.c.map A.d)]) [] [1] 2 (fun x => match x.1 with | (k, out) => l.length - k)
  [0, 1] ⟨(0, []), ?_⟩ rfl ?_ ⟨rfl, rfl, rfl, rfl, trivial⟩ ?_ trivial rfl ?_
 · exact ⟨Nat.zero_le _, rfl⟩
 · repeat' first | exact trivial | refine ⟨rfl, ?_⟩
 · repeat' first | exact trivial | refine ⟨rfl, ?_⟩
 rintro ⟨⟨k, out⟩, hk, hI⟩
 show W _ _ _ _ _ ⟨[(2, .ptr 0 0), (5, .own 1 (out.map ic)), (10, .d (.v (.int .i64 ((k : Nat) : Int)))), (8, _), (9, _)], [(0, t.c.map A.d)], [1], 2⟩
 refine W.seq (W.region (pE rfl (WO.nil (qs (W.seq (bg (l := l) (k := k) rfl (by simp [Ex.aF, aK]) hk (fun s hx hd hlt => ?_) (fun he hd => ?_)))))))
 ·
  have hol : out.length ≤ k := by rw [hI]; simp; omega
  have htc : aw Try.prog 30 [.ag t.c, .d (.v (.string s))] (.d (.v (.int .i64 (idx (cP t.ab s))))) 0 := nf t s
  refine W.skip (qs (W.seq (W.block (W.seq (W.region (pu (indexAddr aa rfl rfl rfl rfl rfl rfl (Int.natCast_nonneg _) (aH hx) rfl) rfl ?_))))))
  refine pE rfl (pE rfl (WO.nil (qs (W.region (pE rfl (pE rfl (pE rfl (pu (ae rfl rfl rfl htc rfl) rfl ?_))))))))
  refine pu (aG aa rfl rfl rfl rfl rfl rfl rfl rfl rfl) rfl ?_
  refine ck (fn := ic) (a := idx (cP t.ab s)) aa rfl rfl rfl rfl rfl rfl rfl rfl rfl rfl (fun _ => rfl) (by show (out.length + 1) * 8 ≤ _; omega) ?_
  refine pE rfl (WO.nil (a0 (qs (W.region ?_))))
  iterate 2 refine pE rfl ?_
  refine WO.nil (W.aY [0, 2] ⟨(k + 1, out ++ [idx (cP t.ab s)]), ?_⟩ ?_ rfl ?_ ⟨rfl, rfl, rfl, rfl, trivial⟩ ?_ trivial rfl)
  · exact ⟨hlt, by rw [hI, List.take_add_one, hx]; simp⟩
  · dsimp only; omega
  · repeat' first | exact trivial | refine ⟨rfl, ?_⟩ | refine ⟨aE (by assumption) (by assumption), ?_⟩
  repeat' first | exact trivial | refine ⟨rfl, ?_⟩
 have hfin : out = l.map fun s => idx (cP t.ab s) := by rw [hI, List.take_of_length_le (by have := congrArg List.length hd; simp at this; omega)]
 refine W.exit (aN (aR (aO (qs (W.seq (W.region ?_))))))
 iterate 2 refine pE rfl ?_
 refine WO.nil (qs (W.ret (QF.ar trivial rfl ?_)))
 simp only [norm, az]; rw [hfin, List.map_map]; rfl
theorem po : ∀ (not : List ByteArray) (ab : List Col) (k i : Nat) (c : Col), ab[k]? = some c → dN not (ab.take (k + 1)) i = dN not (ab.take k) i ++ (if not.any (fun x => decide (c.name = x)) then [] else [i + k])
 | not, [], k, i, c, h => by simp at h
 | not, d :: r, 0, i, c, h => by
  simp at h
  subst h
  simp only [List.take_succ_cons, List.take_zero, dN]
  split <;> simp
 | not, d :: r, k + 1, i, c, h => by
  have ih := po not r k (i + 1) c (by simpa using h)
  rw [List.take_succ_cons, List.take_succ_cons, dN, dN, ih, show i + 1 + k = i + (k + 1) by omega]
  split <;> simp
theorem ko : ∀ (not : List ByteArray) (ab : List Col) (i : Nat), (dN not ab i).length ≤ ab.length
 | _, [], _ => by simp [dN]
 | not, c :: r, i => by
  have := ko not r (i + 1)
  simp only [dN]
  split <;> simp <;> omega
theorem sS (t : bj) (names : List ByteArray) (h : t.ab.length ≤ 100000) : aw Try.prog 24 [.ag t.c, .d (.sl (names.map sc))] (.d (.sl ((dN names t.ab 0).map nc))) 0 := by
 refine aw.a8 (n := 27) (ts := [4]) Try.func24 (by kernel_rfl) rfl Try.ntmps24 Try.results24 rfl rfl fun C hC hG => ?_
 refine W.seq (W.region (bM rfl rfl rfl (pE rfl (WO.nil (qs (W.seq (W.region (pE rfl (WO.nil (qs ?_))))))))))
 iterate 2 refine W.seq ?_
 refine W.region (pE rfl (pE rfl ?_))
 iterate 2 refine pE rfl ?_
 refine WO.nil (qs (W.block (aU (d := 5) rfl rfl ?_)))
 refine W.len (t := 9) rfl rfl (fun hlen => ?_)
 try simp only [List.length_map, Ex.aF] at hlen
 refine W.aW (ι := {x : Nat × List Nat // match x with | (k, out) => k ≤ t.ab.length ∧ out = dN names (t.ab.take k) 0})
  (fun x => match x.1 with | (k, out) => [(5, .own 0 (out.map nc)), (11, .d (.v (.int .i64 ((k : Nat) : Int))))]) [(1, _), (9, _), (10, _)]
  (fun x => match x.1 with | (k, out) => []) [] [0] 1 (fun x => match x.1 with | (k, out) => t.ab.length - k)
  [1] ⟨(0, []), ?_⟩ rfl ?_ ⟨rfl, rfl, rfl, rfl, rfl, rfl, trivial⟩ ?_ trivial rfl ?_
 · exact ⟨Nat.zero_le _, rfl⟩
 · repeat' first | exact trivial | refine ⟨rfl, ?_⟩
 · repeat' exact trivial
 rintro ⟨⟨k, out⟩, hk, hI⟩
 show W _ _ _ _ _ ⟨[(5, .own 0 (out.map nc)), (11, .d (.v (.int .i64 ((k : Nat) : Int)))), (1, _), (9, _), (10, _)], [], [0], 1⟩
 refine W.seq (W.region (pE rfl (WO.nil (qs (W.seq (bg (l := t.ab) (k := k) rfl (by simp [Ex.aF, aK]) hk (fun c hx hd hlt => ?_) (fun he hd => ?_)))))))
 ·
  have hol : out.length ≤ k := by rw [hI]; have := ko names (t.ab.take k) 0; simp at this; omega
  have hst := po names t.ab k 0 c hx
  rw [← hI, Nat.zero_add] at hst
  refine W.skip (qs (W.seq (W.block (W.seq (W.region (pE rfl (pu (indexAddr aa rfl rfl rfl rfl rfl rfl (Int.natCast_nonneg _) (aH hx) rfl) rfl ?_)))))))
  refine pE rfl (a9 aa rfl rfl rfl (pE rfl (aQ aa rfl rfl rfl rfl rfl rfl rfl rfl (WO.nil (qs (W.seq (W.region ?_)))))))
  iterate 2 refine pE rfl ?_
  refine pE rfl (pu (ae rfl rfl rfl (dF names c.name) rfl) rfl ?_)
  refine pE rfl (WO.nil (qs (aq rfl (fun h20 => ?_) (fun h20 => ?_))))
  ·
   have hq : names.any (fun x => decide (c.name = x)) = false := by simpa using h20
   rw [if_neg (by simp [hq])] at hst
   refine W.region ?_
   iterate 2 refine pE rfl ?_
   refine pu (aG aa rfl rfl rfl rfl rfl rfl rfl rfl rfl) rfl ?_
   refine ck (fn := nc) (a := k) aa rfl rfl rfl rfl rfl rfl rfl rfl rfl rfl (fun _ => rfl) (by show (out.length + 1) * 8 ≤ _; omega) ?_
   refine pE rfl (WO.nil (a0 (qs (W.region ?_))))
   iterate 2 refine pE rfl ?_
   refine WO.nil (W.aY [2] ⟨(k + 1, out ++ [k]), ?_⟩ ?_ rfl ?_ ⟨rfl, rfl, rfl, rfl, rfl, rfl, trivial⟩ ?_ trivial rfl)
   · exact ⟨hlt, hst.symm⟩
   · dsimp only; omega
   · repeat' first | exact trivial | refine ⟨rfl, ?_⟩ | refine ⟨aE (by assumption) (by assumption), ?_⟩
   repeat' exact trivial
  have hq : names.any (fun x => decide (c.name = x)) = true := by simpa using h20
  rw [if_pos hq, List.append_nil] at hst
  refine W.skip (a0 (qs (W.region ?_)))
  iterate 2 refine pE rfl ?_
  refine WO.nil (W.aY [0] ⟨(k + 1, out), ?_⟩ ?_ rfl ?_ ⟨rfl, rfl, rfl, rfl, rfl, rfl, trivial⟩ ?_ trivial rfl)
  · exact ⟨hlt, hst.symm⟩
  · dsimp only; omega
  · repeat' first | exact trivial | refine ⟨rfl, ?_⟩ | refine ⟨aE (by assumption) (by assumption), ?_⟩
  repeat' exact trivial
 have hfin : out = dN names t.ab 0 := by rw [hI, List.take_of_length_le (by have := congrArg List.length hd; simp at this; omega)]
 refine W.exit (aN (aR (aO (qs (W.seq (W.region ?_))))))
 iterate 2 refine pE rfl ?_
 refine WO.nil (qs (W.ret (QF.ar trivial rfl ?_)))
 simp only [norm, az]; rw [hfin]; rfl
theorem nl (r : List aD) (i j : Nat) (hi : i < r.length) (hj : j < r.length) : aw Try.prog 26 [.d (.sl (r.map aD.c)), .d (.sl ([i, j].map nc))] (.tup [.ag [ci (bb r i).n, ci (bb r j).n], .d (.v (.bool (c7 r i j)))]) 0 := by
 have hvi : r[i]? = some (bb r i) := by unfold bb; rw [List.getD_eq_getElem?_getD, List.getElem?_eq_getElem hi]; rfl
 have hvj : r[j]? = some (bb r j) := by unfold bb; rw [List.getD_eq_getElem?_getD, List.getElem?_eq_getElem hj]; rfl
 refine aw.fa aa (n := 40) (rs := [.cell 4 42, .tmp 5]) Try.func26 (by kernel_rfl) rfl Try.ntmps26 Try.results26 rfl fun C hC hG => ?_
 refine W.seq (W.region (a9 aa rfl rfl rfl (pE rfl (WO.nil (qs (W.seq (W.eW aa 15 2 (by kernel_rfl) rfl rfl ?_)))))))
 refine aM rfl (ev aa rfl) rfl ?_
 refine aM rfl (ev aa rfl) rfl ?_
 refine aM rfl (indexAddr (l := nc i) aa rfl rfl rfl rfl rfl rfl (by decide) rfl rfl) rfl ?_
 refine aM rfl (ev aa rfl) rfl ?_
 refine aM rfl (indexAddr (l := (bb r i).c) aa rfl rfl rfl rfl rfl rfl (Int.natCast_nonneg _) (aH hvi) rfl) rfl ?_
 refine aM rfl (ev aa rfl) rfl ?_
 refine aM rfl (ev aa rfl) rfl ?_
 refine aM rfl (ev aa rfl) rfl ?_
 refine aM rfl (indexAddr (l := nc j) aa rfl rfl rfl rfl rfl rfl (by decide) rfl rfl) rfl ?_
 refine aM rfl (ev aa rfl) rfl ?_
 refine aM rfl (indexAddr (l := (bb r j).c) aa rfl rfl rfl rfl rfl rfl (Int.natCast_nonneg _) (aH hvj) rfl) rfl ?_
 refine aM rfl (ev aa rfl) rfl ?_
 refine ey 0 rfl rfl rfl rfl rfl rfl ?_
 refine ey 1 rfl rfl rfl rfl rfl rfl ?_
 refine iS 12 0 rfl rfl rfl rfl rfl rfl rfl rfl rfl rfl rfl rfl ?_
 refine CE.nil ?_
 refine aQ aa rfl rfl rfl rfl rfl rfl rfl rfl (WO.nil (qs (W.seq ?_)))
 apply W.iU aa 21 20; (case hB => kernel_rfl); (case h1 => rfl); (case h2 => rfl)
 refine' bo (ev aa rfl) rfl rfl rfl rfl rfl ?h_1
 case' h_1 => skip
 refine' bo (ev aa rfl) rfl rfl rfl rfl rfl ?h_2
 case' h_2 => skip
 refine' bo (ev aa rfl) rfl rfl rfl rfl rfl ?h_3
 case' h_3 => skip
 refine' bo (ev aa rfl) rfl rfl rfl rfl rfl ?h_4
 case' h_4 => skip
 refine' bo (build aa rfl rfl rfl rfl) rfl rfl rfl rfl rfl ?h_5
 case' h_5 => skip
 refine' bR ?p1_6 (ev aa rfl) rfl rfl rfl rfl rfl ?h_6
 case' h_6 => skip
 refine' bR ?p1_7 (ev aa rfl) rfl rfl rfl rfl rfl ?h_7
 case' h_7 => skip
 refine' bR ?p1_8 (ev aa rfl) rfl rfl rfl rfl rfl ?h_8
 case' h_8 => skip
 refine' bR ?p1_9 (ev aa rfl) rfl rfl rfl rfl rfl ?h_9
 case' h_9 => skip
 refine' rQ rfl rfl (fun _ => ?hT_10) (fun _ => ?hF_10)
 case hT_10 =>
  refine' mj rfl rfl ?p1_11 (ev aa rfl) rfl rfl rfl rfl rfl ?h_11
  case' h_11 => skip
  refine' mj rfl rfl ?p1_12 (ev aa rfl) rfl rfl rfl rfl rfl ?h_12
  case' h_12 => skip
  refine' mj rfl rfl ?p1_13 (ev aa rfl) rfl rfl rfl rfl rfl ?h_13
  case' h_13 => skip
  refine' bR ?p1_14 (ev aa rfl) rfl rfl rfl rfl rfl ?h_14
  case' h_14 => skip
  refine' bo (ev aa rfl) rfl rfl rfl rfl rfl ?h_15
  case' h_15 => skip
  refine' rQ rfl rfl (fun _ => ?hT_16) (fun _ => ?hF_16)
  case hT_16 =>
   refine' mj rfl rfl ?p1_17 (ev aa rfl) rfl rfl rfl rfl rfl ?h_17
   case' h_17 => skip
   refine' mj rfl rfl ?p1_18 (ev aa rfl) rfl rfl rfl rfl rfl ?h_18
   case' h_18 => skip
   refine' mj rfl rfl ?p1_19 (ev aa rfl) rfl rfl rfl rfl rfl ?h_19
   case' h_19 => skip
   refine' mj rfl rfl ?p1_20 (ev aa rfl) rfl rfl rfl rfl rfl ?h_20
   case' h_20 => skip
   refine' mj rfl rfl ?p1_21 (ev aa rfl) rfl rfl rfl rfl rfl ?h_21
   case' h_21 => skip
   refine' bR ?p1_22 (ev aa rfl) rfl rfl rfl rfl rfl ?h_22
   case' h_22 => skip
   refine' lM (fun g => ?e_23) rfl rfl ?h_23
   case e_23 =>
    refine aQ aa rfl rfl rfl rfl rfl rfl rfl rfl (WO.nil ?_)
    exact ⟨rfl, rfl⟩
   case' h_23 => skip
   case p1_17 => exact (ev aa rfl)
   case p1_18 => exact (ev aa rfl)
   case p1_19 => exact (ev aa rfl)
   case p1_20 => exact (ev aa rfl)
   case p1_21 => exact (ev aa rfl)
   case p1_22 => exact (ev aa rfl)
   refine CC.nil ?_
   refine pE rfl (WO.nil (qs (W.ret (QV.ar aa trivial rfl ?_))))
   refine congrArg (fun b => A.tup [A.ag [ci (bb r i).n, ci (bb r j).n], .d (.v (.bool b))]) (?_ : _ = c7 r i j)
   unfold c7
   simp_all
  case hF_16 =>
   refine' eV rfl rfl rfl rfl rfl rfl rfl rfl ?h_24
   case' h_24 => skip
   refine' eV rfl rfl rfl rfl rfl rfl rfl rfl ?h_25
   case' h_25 => skip
   refine' eV rfl rfl rfl rfl rfl rfl rfl rfl ?h_26
   case' h_26 => skip
   refine' eV rfl rfl rfl rfl rfl rfl rfl rfl ?h_27
   case' h_27 => skip
   refine' eV rfl rfl rfl rfl rfl rfl rfl rfl ?h_28
   case' h_28 => skip
   refine' bR ?p1_29 (ev aa rfl) rfl rfl rfl rfl rfl ?h_29
   case' h_29 => skip
   refine' lM (fun g => ?e_30) rfl rfl ?h_30
   case e_30 =>
    refine aQ aa rfl rfl rfl rfl rfl rfl rfl rfl (WO.nil ?_)
    exact ⟨rfl, rfl⟩
   case' h_30 => skip
   case p1_29 => exact (ev aa rfl)
   refine CC.nil ?_
   refine pE rfl (WO.nil (qs (W.ret (QV.ar aa trivial rfl ?_))))
   refine congrArg (fun b => A.tup [A.ag [ci (bb r i).n, ci (bb r j).n], .d (.v (.bool b))]) (?_ : _ = c7 r i j)
   unfold c7
   simp_all
  case p1_11 => exact (ev aa rfl)
  case p1_12 => exact (ev aa rfl)
  case p1_13 => exact (ev aa rfl)
  case p1_14 => exact (ev aa rfl)
 case hF_10 =>
  refine' eV rfl rfl rfl rfl rfl rfl rfl rfl ?h_31
  case' h_31 => skip
  refine' eV rfl rfl rfl rfl rfl rfl rfl rfl ?h_32
  case' h_32 => skip
  refine' eV rfl rfl rfl rfl rfl rfl rfl rfl ?h_33
  case' h_33 => skip
  refine' bR ?p1_34 (ev aa rfl) rfl rfl rfl rfl rfl ?h_34
  case' h_34 => skip
  refine' bo (ev aa rfl) rfl rfl rfl rfl rfl ?h_35
  case' h_35 => skip
  refine' eV rfl rfl rfl rfl rfl rfl rfl rfl ?h_36
  case' h_36 => skip
  refine' eV rfl rfl rfl rfl rfl rfl rfl rfl ?h_37
  case' h_37 => skip
  refine' eV rfl rfl rfl rfl rfl rfl rfl rfl ?h_38
  case' h_38 => skip
  refine' eV rfl rfl rfl rfl rfl rfl rfl rfl ?h_39
  case' h_39 => skip
  refine' eV rfl rfl rfl rfl rfl rfl rfl rfl ?h_40
  case' h_40 => skip
  refine' bR ?p1_41 (ev aa rfl) rfl rfl rfl rfl rfl ?h_41
  case' h_41 => skip
  refine' lM (fun g => ?e_42) rfl rfl ?h_42
  case e_42 =>
   refine aQ aa rfl rfl rfl rfl rfl rfl rfl rfl (WO.nil ?_)
   exact ⟨rfl, rfl⟩
  case' h_42 => skip
  case p1_34 => exact (ev aa rfl)
  case p1_41 => exact (ev aa rfl)
  refine CC.nil ?_
  refine pE rfl (WO.nil (qs (W.ret (QV.ar aa trivial rfl ?_))))
  refine congrArg (fun b => A.tup [A.ag [ci (bb r i).n, ci (bb r j).n], .d (.v (.bool b))]) (?_ : _ = c7 r i j)
  unfold c7
  simp_all
 case p1_6 => exact (ev aa rfl)
 case p1_7 => exact (ev aa rfl)
 case p1_8 => exact (ev aa rfl)
 case p1_9 => exact (ev aa rfl)
end Go.Proofs.Ytjenenllmjlimaa
namespace Go.Proofs.Ytjenenllmjlimaa
open Go.Ab Go.Tb
set_option maxRecDepth 10000
attribute [local irreducible] W WO Pu QS QB QL QF QV bO CH QE
theorem jh (op : Int) (on : List ByteArray) (l : List bj) (hl : 0 < l.length) (hon : on.length ≤ 400) : aw Try.prog 22 [.d (.v (.int .i64 op)), .d (.sl (on.map sc)), .d (.sl (l.map bj.c))]
  (.tup [.d (.sl ((fy op on l).1.map Col.c)), .d (.v (.int .i64 (fy op on l).2))]) 0 := by
 obtain ⟨a, ha⟩ : ∃ a, l[0]? = some a := ⟨l[0], by simp [hl]⟩
 have ha2 : l.getD 0 ff = a := by rw [List.getD_eq_getElem?_getD, ha]; rfl
 have hfs : ∀ w, xP (cN op on w) := fun w => ⟨Nat.zero_le _, hon, Nat.zero_le _, Nat.zero_le _⟩
 refine aw.a8 (n := 46) (ts := [6, 7]) Try.func22 (by kernel_rfl) rfl Try.ntmps22 Try.results22 rfl rfl fun C hC hG => ?_
 refine W.seq (W.region ?_)
 iterate 2 refine pE rfl ?_
 refine WO.nil (qs ?_)
 iterate 2 refine W.seq ?_
 refine W.region ?_
 iterate 3 refine pE rfl ?_
 refine WO.nil (qs (W.block (W.len (t := 13) rfl rfl (fun hlen => ?_))))
 try simp only [List.length_map, Ex.aF] at hlen
 refine W.aW (ι := {x : Nat // match x with | k => k ≤ l.length ∧ er (l.drop k) = er l})
  (fun x => match x.1 with | k => [(15, .d (.v (.int .i64 ((k : Nat) : Int))))]) [(0, _), (1, _), (2, _), (13, _), (14, _)]
  (fun x => match x.1 with | k => []) [] [] 0 (fun x => match x.1 with | k => l.length - k)
  [] ⟨0, ?_⟩ rfl ?_ ⟨rfl, rfl, rfl, rfl, rfl, rfl, rfl, rfl, rfl, rfl, trivial⟩ ?_ trivial rfl ?_
 · exact ⟨Nat.zero_le _, rfl⟩
 · repeat' first | exact trivial | refine ⟨rfl, ?_⟩
 · repeat' exact trivial
 rintro ⟨k, hk, hI⟩
 show W _ _ _ _ _ ⟨[(15, .d (.v (.int .i64 ((k : Nat) : Int)))), (0, _), (1, _), (2, _), (13, _), (14, _)], [], [], 0⟩
 refine W.seq (W.region (pE rfl (WO.nil (qs (W.seq (bg (l := l) (k := k) rfl (by simp [Ex.aF, aK]) hk (fun t hx hd hlt => ?_) (fun he hd => ?_)))))))
 ·
  rw [hd] at hI
  simp only [er] at hI
  refine W.skip (qs (W.seq (W.block (W.seq (W.region (pu (indexAddr aa rfl rfl rfl rfl rfl rfl (Int.natCast_nonneg _) (aH hx) rfl) rfl ?_))))))
  refine pE rfl (a9 aa rfl rfl rfl (aQ aa rfl rfl rfl rfl rfl rfl rfl rfl (WO.nil (qs (W.seq (W.region (pE rfl (pu (ae rfl rfl rfl (vD t) rfl) rfl ?_))))))))
  refine pE rfl (WO.nil (qs (W.seq (W.region ?_))))
  iterate 2 refine pE rfl ?_
  refine WO.nil (qs (aq rfl (fun h22 => ?_) (fun h22 => ?_)))
  ·
   have hc : bu t ≠ 0 := by simpa using h22
   rw [if_pos hc] at hI
   have hg : fy op on l = ([], bu t) := by unfold fy; rw [← hI, if_pos hc]
   refine W.seq (W.region ?_)
   iterate 3 refine pE rfl ?_
   refine WO.nil (qs ?_)
   try refine aU (d := 6) rfl rfl ?_
   refine W.ret (au (an (bw (au (an (QF.ar trivial rfl ?_))))))
   (rw [hg]; rfl)
  have hc : bu t = 0 := by simpa using h22
  rw [if_neg (by simp [hc])] at hI
  refine W.skip (a0 (qs (W.region ?_)))
  iterate 2 refine pE rfl ?_
  refine WO.nil (W.aY [] ⟨k + 1, ?_⟩ ?_ rfl ?_ ⟨rfl, rfl, rfl, rfl, rfl, rfl, rfl, rfl, rfl, rfl, trivial⟩ ?_ trivial rfl)
  · exact ⟨hlt, hI⟩
  · dsimp only; omega
  · repeat' first | exact trivial | refine ⟨aE (by assumption) (by assumption), ?_⟩
  repeat' exact trivial
 rw [hd] at hI
 have hfe : er l = 0 := hI.symm
 have hmem := mX hfe
 have haz := dw (hmem a (List.mem_of_getElem? ha))
 refine W.exit (aN (aR (aO (qs (W.seq (W.region ?_))))))
 iterate 2 refine pE rfl ?_
 refine pu (build aa rfl rfl rfl rfl) rfl ?_
 try refine xo 27 rfl rfl rfl ?_
 refine a9 aa rfl rfl rfl (aQ aa rfl rfl rfl rfl rfl rfl rfl rfl (WO.nil (qs (W.seq (W.region (pE rfl (WO.nil (qs ?_))))))))
 iterate 2 refine W.seq ?_
 refine W.region ?_
 iterate 3 refine pE rfl ?_
 refine WO.nil (qs (aq rfl (fun h30 => ?_) (fun h30 => ?_)))
 ·
  have hl1 : 1 < l.length := by simp at h30; omega
  obtain ⟨b, hb⟩ : ∃ b, l[1]? = some b := ⟨l[1], by simp [hl1]⟩
  have hb2 : l.getD 1 ff = b := by rw [List.getD_eq_getElem?_getD, hb]; rfl
  have hbz := dw (hmem b (List.mem_of_getElem? hb))
  have hft : xK [⟨wB, b⟩] := fun x hx => by simp at hx; subst hx; show b.ab.length ≤ 1000; omega
  have hg : fy op on l = eh [⟨wB, b⟩] a.ab (cN op on wB) := by unfold fy; rw [if_neg (by simp [hfe]), if_pos hl1, if_pos hl1, hb2, ha2]
  have hst := rA [⟨wB, b⟩] a.ab (cN op on wB) (hfs wB) hft (by omega)
  apply W.iU aa 7 6; (case hB => kernel_rfl); (case h1 => rfl); (case h2 => rfl)
  refine' bR ?p1_1 (ev aa rfl) rfl rfl rfl rfl rfl ?h_1
  case' h_1 => skip
  refine' bR ?p1_2 (indexAddr (l := b.c) aa rfl rfl rfl rfl rfl rfl (by decide) (aH hb) rfl) rfl rfl rfl rfl rfl ?h_2
  case' h_2 => skip
  refine' bR ?p1_3 (ev aa rfl) rfl rfl rfl rfl rfl ?h_3
  case' h_3 => skip
  refine' bR ?p1_4 (build aa rfl rfl rfl rfl) rfl rfl rfl rfl rfl ?h_4
  case' h_4 => skip
  refine' bR ?p1_5 (aG aa rfl rfl rfl rfl rfl rfl rfl rfl rfl) rfl rfl rfl rfl rfl ?h_5
  case' h_5 => skip
  refine' bo (ev aa rfl) rfl rfl rfl rfl rfl ?h_6
  case' h_6 => skip
  refine' lM (fun g => ?e_7) rfl rfl ?h_7
  case e_7 =>
   refine aQ aa rfl rfl rfl rfl rfl rfl rfl rfl (WO.nil ?_)
   exact ⟨rfl, rfl⟩
  case' h_7 => skip
  case p1_1 => exact (ev aa rfl)
  case p1_2 => exact (indexAddr (l := b.c) aa rfl rfl rfl rfl rfl rfl (by decide) (aH hb) rfl)
  case p1_3 => exact (ev aa rfl)
  case p1_4 => exact (build aa rfl rfl rfl rfl)
  case p1_5 => exact (aG aa rfl rfl rfl rfl rfl rfl rfl rfl rfl)
  refine CC.nil ?_
  refine pE rfl (WO.nil (qs (W.seq ?_)))
  try refine aU (d := 12) rfl rfl ?_
  refine W.bE aa (by kernel_rfl) ?_
  iterate 2 refine ao (ev aa rfl) rfl ?_
  refine ao (indexAddr (l := a.c) aa rfl rfl rfl rfl rfl rfl (by decide) (aH ha) rfl) rfl ?_
  refine ao (ev aa rfl) rfl ?_
  refine ao (ev aa rfl) rfl ?_
  refine ao (ev aa rfl) rfl ?_
  refine ao (ae rfl rfl rfl hst rfl) rfl ?_
  iterate 4 refine ao (ev aa rfl) rfl ?_
  refine CH.nil ?_
  refine qs ?_
  try refine aU (d := 6) rfl rfl ?_
  refine W.ret (QF.ar trivial rfl ?_)
  (rw [hg]; rfl)
 have hl1 : ¬ 1 < l.length := by simp at h30; omega
 have hg : fy op on l = eh [] a.ab (cN op on (B #[])) := by unfold fy; rw [if_neg (by simp [hfe]), if_neg hl1, if_neg hl1, ha2]
 have hst := rA [] a.ab (cN op on (B #[])) (hfs _) (fun x hx => by cases hx) (by omega)
 refine W.skip (qs (W.seq ?_))
 try refine aU (d := 12) rfl rfl ?_
 refine W.bE aa (by kernel_rfl) ?_
 iterate 2 refine ao (ev aa rfl) rfl ?_
 refine ao (indexAddr (l := a.c) aa rfl rfl rfl rfl rfl rfl (by decide) (aH ha) rfl) rfl ?_
 refine ao (ev aa rfl) rfl ?_
 refine ao (ev aa rfl) rfl ?_
 refine ao (ev aa rfl) rfl ?_
 refine ao (ae rfl rfl rfl hst rfl) rfl ?_
 iterate 4 refine ao (ev aa rfl) rfl ?_
 refine CH.nil ?_
 refine qs ?_
 try refine aU (d := 6) rfl rfl ?_
 refine W.ret (QF.ar trivial rfl ?_)
 (rw [hg]; rfl)
theorem yu (a b : Int) : aw Try.prog 46 [.d (.sl ([a, b].map ic))] (.d (.v (.int .i64 (if a ≠ 0 then a else b)))) 0 := by
 refine aw.a8 (n := 18) (ts := [2]) Try.func46 (by kernel_rfl) rfl Try.ntmps46 Try.results46 rfl rfl fun C hC hG => ?_
 refine W.seq (W.region (pE rfl (WO.nil (qs (W.seq (W.region (pE rfl (WO.nil (qs ?_)))))))))
 iterate 2 refine W.seq ?_
 refine W.region ?_
 iterate 3 refine pE rfl ?_
 refine WO.nil (qs (W.block (W.len (t := 6) rfl rfl (fun hlen => ?_))))
 try simp only [List.length_map, Ex.aF] at hlen
 refine W.aW (ι := {x : Nat // match x with | k => k ≤ [a, b].length ∧ (if a ≠ 0 then a else b) = (([a, b].drop k).find? (fun x => decide (x ≠ 0))).getD 0})
  (fun x => match x.1 with | k => [(8, .d (.v (.int .i64 ((k : Nat) : Int))))]) [(3, _), (6, _), (7, _)]
  (fun x => match x.1 with | k => []) [] [] 0 (fun x => match x.1 with | k => [a, b].length - k)
  [] ⟨0, ?_⟩ rfl ?_ ⟨rfl, rfl, rfl, rfl, rfl, rfl, trivial⟩ ?_ trivial rfl ?_
 · exact ⟨Nat.zero_le _, by by_cases h : a = 0 <;> by_cases h2 : b = 0 <;> simp [h, h2]⟩
 · repeat' first | exact trivial | refine ⟨rfl, ?_⟩
 · repeat' exact trivial
 rintro ⟨k, hk, hI⟩
 show W _ _ _ _ _ ⟨[(8, .d (.v (.int .i64 ((k : Nat) : Int)))), (3, _), (6, _), (7, _)], [], [], 0⟩
 refine W.seq (W.region (pE rfl (WO.nil (qs (W.seq (bg (l := [a, b]) (k := k) rfl (by simp [Ex.aF, aK]) hk (fun x hx hd hlt => ?_) (fun he hd => ?_)))))))
 ·
  rw [hd] at hI
  refine W.skip (qs (W.seq (W.block (W.seq (W.region (pu (indexAddr aa rfl rfl rfl rfl rfl rfl (Int.natCast_nonneg _) (aH hx) rfl) rfl ?_))))))
  refine pE rfl (pE rfl (WO.nil (qs (W.seq (W.region ?_)))))
  iterate 3 refine pE rfl ?_
  refine WO.nil (qs (aq rfl (fun h14 => ?_) (fun h14 => ?_)))
  ·
   have hz : x ≠ 0 := by simpa using h14
   rw [List.find?_cons_of_pos (by simpa using hz)] at hI
   refine W.seq (W.region ?_)
   iterate 2 refine pE rfl ?_
   refine WO.nil (qs (W.ret (au (an (bw (au (an (QF.ar trivial rfl ?_))))))))
   simp only [norm, az, hI]; first | rfl | skip
  have hz : x = 0 := by simpa using h14
  rw [List.find?_cons_of_neg (by simp [hz])] at hI
  refine W.skip (a0 (qs (W.region ?_)))
  iterate 2 refine pE rfl ?_
  refine WO.nil (W.aY [] ⟨k + 1, ?_⟩ ?_ rfl ?_ ⟨rfl, rfl, rfl, rfl, rfl, rfl, trivial⟩ ?_ trivial rfl)
  · exact ⟨hlt, hI⟩
  · dsimp only; omega
  · repeat' first | exact trivial | refine ⟨aE (by assumption) (by assumption), ?_⟩
  repeat' exact trivial
 rw [hd] at hI
 refine W.exit (aN (aR (aO (qs (W.seq (W.region ?_))))))
 iterate 2 refine pE rfl ?_
 refine WO.nil (qs (W.ret (QF.ar trivial rfl ?_)))
 simp only [norm, az, hI]; first | rfl | skip
end Go.Proofs.Ytjenenllmjlimaa
namespace Go.Proofs.Ytjenenllmjlimaa
open Go.Ab Go.Tb
set_option maxRecDepth 10000
attribute [local irreducible] W WO Pu QS QB QL QF QV bO CH QE
theorem wH (a b : List aD) : aw Try.prog 47 [.d (.sl (a.map aD.c)), .d (.sl (b.map aD.c)), .clo 48 []] (.d (.v (.int .i64 (cw a b)))) 0 := by
 refine aw.a8 (n := 39) (ts := [6]) Try.func47 (by kernel_rfl) rfl Try.ntmps47 Try.results47 rfl rfl fun C hC hG => ?_
 refine W.seq (W.region (pE rfl (WO.nil (qs ?_))))
 iterate 2 refine W.seq ?_
 refine W.region ?_
 iterate 3 refine pE rfl ?_
 refine WO.nil (qs (W.block (W.len (t := 1) rfl rfl (fun hlenb => ?_))))
 simp only [List.length_map] at hlenb
 refine W.len (t := 0) rfl rfl (fun hlen => ?_)
 try simp only [List.length_map, Ex.aF] at hlen
 refine W.aW (ι := {x : Nat // match x with | k => k ≤ a.length ∧ k ≤ b.length ∧ cw (a.drop k) (b.drop k) = cw a b})
  (fun x => match x.1 with | k => [(13, .d (.v (.int .i64 ((k : Nat) : Int))))]) [(0, _), (1, _), (2, _), (11, _), (12, _)]
  (fun x => match x.1 with | k => []) [] [] 0 (fun x => match x.1 with | k => a.length - k)
  [] ⟨0, ?_⟩ rfl ?_ ⟨rfl, rfl, rfl, rfl, rfl, rfl, rfl, rfl, rfl, rfl, trivial⟩ ?_ trivial rfl ?_
 · exact ⟨Nat.zero_le _, Nat.zero_le _, rfl⟩
 · repeat' first | exact trivial | refine ⟨rfl, ?_⟩
 · repeat' exact trivial
 rintro ⟨k, hk, hkb, hI⟩
 show W _ _ _ _ _ ⟨[(13, .d (.v (.int .i64 ((k : Nat) : Int)))), (0, _), (1, _), (2, _), (11, _), (12, _)], [], [], 0⟩
 refine W.seq (W.region (pE rfl (WO.nil (qs (W.seq (bg (l := a) (k := k) rfl (by simp [Ex.aF, aK]) hk (fun x hx hd hlt => ?_) (fun he hd => ?_)))))))
 ·
  rw [hd] at hI
  refine W.skip (qs (W.seq (W.block (W.seq (W.region (pE rfl (pu (indexAddr aa rfl rfl rfl rfl rfl rfl (Int.natCast_nonneg _) (aH hx) rfl) rfl ?_)))))))
  refine pE rfl (a9 aa rfl rfl rfl (pE rfl (aQ aa rfl rfl rfl rfl rfl rfl rfl rfl (WO.nil (qs ?_)))))
  iterate 2 refine W.seq ?_
  refine W.region ?_
  iterate 4 refine pE rfl ?_
  refine WO.nil (qs (aq rfl (fun h21 => ?_) (fun h21 => ?_)))
  ·
   have hbk : b.length ≤ k := by simp at h21; omega
   rw [List.drop_eq_nil_of_le hbk] at hI
   refine W.seq (W.region (pE rfl (WO.nil (qs (W.ret (an (au (an (bw (au (an (QF.ar trivial rfl ?_))))))))))))
   rw [← hI]; rfl
  have hbk : k < b.length := by simp at h21; omega
  obtain ⟨y, hy⟩ : ∃ y, b[k]? = some y := ⟨b[k], by simp [hbk]⟩
  have hd2 : b.drop k = y :: b.drop (k + 1) := by
   have := List.drop_eq_getElem_cons hbk
   rw [this, (List.getElem?_eq_some_iff.1 hy).2]
  rw [hd2] at hI
  simp only [cw] at hI
  refine W.skip (qs (W.seq (W.region ?_)))
  iterate 2 refine pE rfl ?_
  refine pu (indexAddr (l := y.c) aa rfl rfl rfl rfl rfl rfl (Int.natCast_nonneg _) (aH hy) rfl) rfl ?_
  refine pE rfl (a9 aa rfl rfl rfl (aQ aa rfl rfl rfl rfl rfl rfl rfl rfl (WO.nil (qs (W.seq (W.region (pE rfl (pE rfl (pE rfl (pu (ae rfl rfl rfl (vN x y) rfl) rfl ?_))))))))))
  refine pE rfl (WO.nil (qs (W.seq (W.region ?_))))
  iterate 2 refine pE rfl ?_
  refine WO.nil (qs (aq rfl (fun h31 => ?_) (fun h31 => ?_)))
  ·
   have hq : cR x y ≠ 0 := by simpa using h31
   rw [if_pos hq] at hI
   refine W.seq (W.region ?_)
   iterate 2 refine pE rfl ?_
   refine WO.nil (qs (W.ret (au (an (bw (au (an (QF.ar trivial rfl ?_))))))))
   rw [← hI]; rfl
  have hq : cR x y = 0 := by simpa using h31
  rw [if_neg (by simp [hq])] at hI
  refine W.skip (a0 (qs (W.region ?_)))
  iterate 2 refine pE rfl ?_
  refine WO.nil (W.aY [] ⟨k + 1, ?_⟩ ?_ rfl ?_ ⟨rfl, rfl, rfl, rfl, rfl, rfl, rfl, rfl, rfl, rfl, trivial⟩ ?_ trivial rfl)
  · exact ⟨hlt, hbk, hI⟩
  · dsimp only; omega
  · repeat' first | exact trivial | refine ⟨aE (by assumption) (by assumption), ?_⟩
  repeat' exact trivial
 have hka : a.length ≤ k := by have := congrArg List.length hd; simp at this; omega
 rw [hd] at hI
 refine W.exit (aN (aR (aO (qs ?_))))
 iterate 2 refine W.seq ?_
 refine W.region ?_
 iterate 5 refine pE rfl ?_
 refine WO.nil (qs (aq rfl (fun h38 => ?_) (fun h38 => ?_)))
 ·
  have hbk : k < b.length := by simp at h38; omega
  have hg : cw a b = -1 := by
   rw [← hI, List.drop_eq_getElem_cons hbk]; rfl
  refine W.seq (W.region (pE rfl (WO.nil (qs (W.ret (an (QF.ar trivial rfl ?_)))))))
  rw [hg]; rfl
 have hbk : b.length ≤ k := by simp at h38; omega
 have hg : cw a b = 0 := by rw [← hI, List.drop_eq_nil_of_le hbk]; rfl
 refine W.skip (qs (W.seq (W.region (pE rfl (WO.nil (qs (W.ret (QF.ar trivial rfl ?_))))))))
 rw [hg]; rfl
theorem jJ (a b : Pc) : aw Try.prog 34 [.ag a.c, .ag b.c] (.d (.v (.int .i64 (kP a b)))) 0 := by
 refine aw.a8 (n := 19) (ts := [4]) Try.func34 (by kernel_rfl) rfl Try.ntmps34 Try.results34 rfl rfl fun C hC hG => ?_
 refine W.seq (W.region (bM rfl rfl rfl (bM rfl rfl rfl (pE rfl (WO.nil (qs (W.seq (W.bE aa (by kernel_rfl) ?_))))))))
 refine ao (ev aa rfl) rfl ?_
 refine ao (ev aa rfl) rfl ?_
 refine ao (ev aa rfl) rfl ?_
 refine ao (ev aa rfl) rfl ?_
 refine ao (ae rfl rfl rfl (wH a.key b.key) rfl) rfl ?_
 iterate 2 refine ao (ev aa rfl) rfl ?_
 refine ao (ev aa rfl) rfl ?_
 iterate 2 refine ao (ev aa rfl) rfl ?_
 refine ao (ev aa rfl) rfl ?_
 refine ao (ae rfl rfl rfl (sT a.fr b.fr) rfl) rfl ?_
 refine ao (aG aa rfl rfl rfl rfl rfl rfl rfl rfl rfl) rfl ?_
 refine ao (ae rfl rfl rfl (yu (cw a.key b.key) (cG a.fr b.fr)) rfl) rfl ?_
 refine ao (ev aa rfl) rfl ?_
 refine CH.nil ?_
 refine qs (W.ret (QF.ar trivial rfl ?_))
 rfl
theorem bZ (l : List Pc) : ∀ (x : List D), x ∈ l.map Pc.c → x.length = 3 := by
 intro x hx
 obtain ⟨y, _, rfl⟩ := List.mem_map.1 hx
 rfl
theorem de {l : List Pc} {k : Nat} (h : k < l.length) : (l.map Pc.c)[k]? = some (el l k).c := by rw [List.getElem?_map, iA h]; rfl
theorem gB {l : List Pc} {i : Nat} {x : Pc} : (l.map Pc.c).set i x.c = (l.set i x).map Pc.c := List.map_set.symm
theorem dV {x y : Nat} (h : x + y ≤ 1000000000) : IntKind.i64.wrap ((x : Int) + (y : Int)) = ((x + y : Nat) : Int) := by rw [wrap64 (by omega)]; omega
theorem gy {x y : Nat} (h : y ≤ x) (hx : x ≤ 1000000000) : IntKind.i64.wrap ((x : Int) - (y : Int)) = ((x - y : Nat) : Int) := by rw [wrap64 (by omega)]; omega
theorem ov (l : List Pc) (a b c k cap : Nat) (hcap : l.length ≤ 100000) (h1 : a + c ≤ b) (h2 : b + c ≤ l.length) :
  cU Try.prog 100 [.sb 0 l.length cap, .d (.v (.int .i64 (a : Int))), .d (.v (.int .i64 (b : Int))), .d (.v (.int .i64 (c : Int))), .clo 34 []] [a7 (l.map Pc.c) k] 0 (.tup []) [a7 ((cZ l a b c 0).map Pc.c) k] 0 := by
 have hcm : c ≤ maxLen := by simp only [maxLen]; omega
 refine cU.fa aa (n := 38) (rs := []) Try.func100 (by kernel_rfl) rfl Try.ntmps100 Try.results100 rfl rfl fun C hC hG => ?_
 refine W.seq (W.region (pE rfl (WO.nil (qs (W.block ?_)))))
 refine W.aW (ι := {x : Nat × List Pc // match x with | (i, L) => i ≤ c ∧ L.length = l.length ∧ cZ L a b (c - i) i = cZ l a b c 0})
  (fun x => match x.1 with | (i, L) => [(0, .sb 0 l.length cap), (10, .d (.v (.int .i64 ((i : Nat) : Int))))]) [(1, _), (2, _), (3, _)]
  (fun x => match x.1 with | (i, L) => [(0, a7 (L.map Pc.c) k)]) [] [] 1 (fun x => match x.1 with | (i, L) => c - i)
  [0] ⟨(0, l), ?_⟩ rfl ?_ ⟨rfl, rfl, rfl, rfl, rfl, rfl, trivial⟩ ?_ trivial rfl ?_
 · exact ⟨Nat.zero_le _, rfl, rfl⟩
 · repeat' first | exact trivial | refine ⟨rfl, ?_⟩
 · repeat' first | exact trivial | refine ⟨congrArg some (ba _ _ _), ?_⟩
 rintro ⟨⟨i, L⟩, hi, hL, hI⟩
 show W _ _ _ _ _ ⟨[(0, .sb 0 l.length cap), (10, .d (.v (.int .i64 ((i : Nat) : Int)))), (1, _), (2, _), (3, _)], [(0, a7 (L.map Pc.c) k)], [], 1⟩
 iterate 2 refine W.seq ?_
 refine W.region ?_
 iterate 3 refine pE rfl ?_
 refine WO.nil (qs (aq rfl (fun h13 => ?_) (fun h13 => ?_)))
 ·
  have hic : i < c := by simp at h13; omega
  obtain ⟨r, hr⟩ : ∃ r, c - i = r + 1 := ⟨c - i - 1, by omega⟩
  have hr2 : c - (i + 1) = r := by omega
  rw [hr] at hI
  simp only [cZ] at hI
  have ea : (L.map Pc.c)[a + i]? = some (el L (a + i)).c := de (by omega)
  have eb : (L.map Pc.c)[b + i]? = some (el L (b + i)).c := de (by omega)
  have eb2 : ((L.set (a + i) (el L (b + i))).map Pc.c)[b + i]? = some (el L (b + i)).c := by rw [de (by rw [List.length_set]; omega), kZ (by omega), if_neg (by omega)]
  refine W.skip (qs (W.seq (W.block ?_)))
  apply W.iU aa 22 21; (case hB => kernel_rfl); (case h1 => rfl); (case h2 => rfl)
  refine' bo (ev aa rfl) rfl rfl rfl rfl rfl ?h_1
  case' h_1 => skip
  refine' bo (ev aa rfl) rfl rfl rfl rfl rfl ?h_2
  case' h_2 => skip
  refine' bo (ev aa rfl) rfl rfl rfl rfl rfl ?h_3
  case' h_3 => skip
  refine' bo (bL (ev aa rfl) (dV (x := a) (y := i) (by omega))) rfl rfl rfl rfl rfl ?h_4
  case' h_4 => skip
  refine' bR ?p1_5 (ev aa rfl) rfl rfl rfl rfl rfl ?h_5
  case' h_5 => skip
  refine' bR ?p1_6 (ev aa rfl) rfl rfl rfl rfl rfl ?h_6
  case' h_6 => skip
  refine' bR ?p1_7 (ev aa rfl) rfl rfl rfl rfl rfl ?h_7
  case' h_7 => skip
  refine' bR ?p1_8 (bL (ev aa rfl) (dV (x := b) (y := i) (by omega))) rfl rfl rfl rfl rfl ?h_8
  case' h_8 => skip
  refine' bo (ev aa rfl) rfl rfl rfl rfl rfl ?h_9
  case' h_9 => skip
  refine' bo (ev aa rfl) rfl rfl rfl rfl rfl ?h_10
  case' h_10 => skip
  refine' bo (ev aa rfl) rfl rfl rfl rfl rfl ?h_11
  case' h_11 => skip
  refine' bo (bL (ev aa rfl) (dV (x := b) (y := i) (by omega))) rfl rfl rfl rfl rfl ?h_12
  case' h_12 => skip
  refine' bo (bD aa rfl rfl rfl rfl rfl (Int.natCast_nonneg _) (show b + i < l.length by omega) rfl) rfl rfl rfl rfl rfl ?h_13
  case' h_13 => skip
  refine' bo (dP (i := b + i) aa rfl rfl rfl rfl (bZ L) eb) rfl rfl rfl rfl rfl ?h_14
  case' h_14 => skip
  refine' bR ?p1_15 (ev aa rfl) rfl rfl rfl rfl rfl ?h_15
  case' h_15 => skip
  refine' bR ?p1_16 (ev aa rfl) rfl rfl rfl rfl rfl ?h_16
  case' h_16 => skip
  refine' bR ?p1_17 (ev aa rfl) rfl rfl rfl rfl rfl ?h_17
  case' h_17 => skip
  refine' bR ?p1_18 (bL (ev aa rfl) (dV (x := a) (y := i) (by omega))) rfl rfl rfl rfl rfl ?h_18
  case' h_18 => skip
  refine' bR ?p1_19 (bD aa rfl rfl rfl rfl rfl (Int.natCast_nonneg _) (show a + i < l.length by omega) rfl) rfl rfl rfl rfl rfl ?h_19
  case' h_19 => skip
  refine' bo (dP (i := a + i) aa rfl rfl rfl rfl (bZ L) ea) rfl rfl rfl rfl rfl ?h_20
  case' h_20 => skip
  refine' bo (bD aa rfl rfl rfl rfl rfl (Int.natCast_nonneg _) (show a + i < l.length by omega) rfl) rfl rfl rfl rfl rfl ?h_21
  case' h_21 => skip
  refine' lM (fun g => ?e_22) rfl rfl ?h_22
  case e_22 =>
   refine gX (i := a + i) aa rfl rfl rfl rfl (bZ L) ea rfl rfl (gB (x := el L (b + i))) ?_
   refine WO.nil ?_
   exact ⟨rfl, rfl⟩
  case' h_22 => skip
  case p1_5 => exact (ev aa rfl)
  case p1_6 => exact (ev aa rfl)
  case p1_7 => exact (ev aa rfl)
  case p1_8 => exact (bL (ev aa rfl) (dV (x := b) (y := i) (by omega)))
  case p1_15 => exact (ev aa rfl)
  case p1_16 => exact (ev aa rfl)
  case p1_17 => exact (ev aa rfl)
  case p1_18 => exact (bL (ev aa rfl) (dV (x := a) (y := i) (by omega)))
  case p1_19 => exact (bD aa rfl rfl rfl rfl rfl (Int.natCast_nonneg _) (show a + i < l.length by omega) rfl)
  refine CC.nil ?_
  refine pu (bD aa rfl rfl rfl rfl rfl (Int.natCast_nonneg _) (show b + i < l.length by omega) rfl) rfl ?_
  refine gX (i := b + i) aa rfl rfl rfl rfl (bZ _) eb2 rfl rfl (gB (x := el L (a + i))) ?_
  refine WO.nil (a0 (qs (W.region ?_)))
  iterate 3 refine pE rfl ?_
  refine WO.nil (W.aY [0] ⟨(i + 1, eC L (a + i) (b + i)), ?_⟩ ?_ rfl ?_ ⟨rfl, rfl, rfl, rfl, rfl, rfl, trivial⟩ ?_ trivial rfl)
  · exact ⟨hic, by rw [cV]; exact hL, by rw [hr2]; exact hI⟩
  · dsimp only; omega
  · repeat' first | exact trivial | refine ⟨rfl, ?_⟩ | refine ⟨aE (by assumption) (by assumption), ?_⟩
  repeat' first | exact trivial | refine ⟨congrArg some (ba _ _ _), ?_⟩
 have hic : c - i = 0 := by simp at h13; omega
 rw [hic] at hI
 simp only [cZ] at hI
 refine W.exit (aN (aR (aO (fQ.end aa [] trivial rfl rfl rfl rfl ?_ ?_))))
 · rw [← hI]; exact iH rfl
 rfl
theorem oK (L : List Pc) (a j : Nat) : gl bd L a (j + 1) = if a < j + 1 then (if bd (el L (j + 1)) (el L j) = true then gl bd (eC L (j + 1) j) a j else L) else L := rfl
theorem vd (g : Nat) (L : List Pc) (m i j : Nat) : fN (g + 1) L m i j = if i = j then cZ L (m - i) m i 0 else if j < i then fN g (cZ L (m - i) m j 0) m (i - j) j else fN g (cZ L (m - i) (m + j - i) i 0) m i (j - i) := rfl
theorem uX (l : List Pc) (a b k cap : Nat) (hcap : l.length ≤ 100000) (hb : b ≤ l.length) (ha : a ≤ l.length) :
  cU Try.prog 64 [.sb 0 l.length cap, .d (.v (.int .i64 (a : Int))), .d (.v (.int .i64 (b : Int))), .clo 34 []] [a7 (l.map Pc.c) k] 0 (.tup []) [a7 ((ee bd l a b).map Pc.c) k] 0 := by
 have hbm : b ≤ maxLen := by simp only [maxLen]; omega
 refine cU.fa aa (n := 53) (rs := []) Try.func64 (by kernel_rfl) rfl Try.ntmps64 Try.results64 rfl rfl fun C hC hG => ?_
 refine W.seq (W.region (pE rfl (pu (bL (ev aa rfl) (dV (x := a) (y := 1) (by omega))) rfl ?_)))
 refine pE rfl (WO.nil (qs (W.block ?_)))
 refine W.aW (ι := {x : Nat × List Pc // match x with | (i, L) => a < i ∧ L.length = l.length ∧ iP bd L a (b - i) i = ee bd l a b})
  (fun x => match x.1 with | (i, L) => [(0, .sb 0 l.length cap), (8, .d (.v (.int .i64 ((i : Nat) : Int))))]) [(1, _), (2, _), (3, _)]
  (fun x => match x.1 with | (i, L) => [(0, a7 (L.map Pc.c) k)]) [] [] 1 (fun x => match x.1 with | (i, L) => b - i)
  [0] ⟨(a + 1, l), ?_⟩ rfl ?_ ⟨rfl, rfl, rfl, rfl, rfl, rfl, trivial⟩ ?_ trivial rfl ?_
 · exact ⟨Nat.lt_succ_self _, rfl, rfl⟩
 · repeat' first | exact trivial | refine ⟨rfl, ?_⟩
 · repeat' first | exact trivial | refine ⟨congrArg some (ba _ _ _), ?_⟩
 rintro ⟨⟨i, L⟩, hi, hL, hI⟩
 show W _ _ _ _ _ ⟨[(0, .sb 0 l.length cap), (8, .d (.v (.int .i64 ((i : Nat) : Int)))), (1, _), (2, _), (3, _)], [(0, a7 (L.map Pc.c) k)], [], 1⟩
 iterate 2 refine W.seq ?_
 refine W.region ?_
 iterate 3 refine pE rfl ?_
 refine WO.nil (qs (aq rfl (fun h14 => ?_) (fun h14 => ?_)))
 ·
  have hib : i < b := by simp at h14; omega
  obtain ⟨r, hr⟩ : ∃ r, b - i = r + 1 := ⟨b - i - 1, by omega⟩
  have hr2 : b - (i + 1) = r := by omega
  rw [hr] at hI
  simp only [iP] at hI
  refine W.skip (qs (W.seq (W.block (W.seq (W.region ?_)))))
  iterate 2 refine pE rfl ?_
  refine WO.nil (qs (W.block ?_))
  refine W.aW (ι := {x : Nat × List Pc // match x with | (j, M) => j ≤ i ∧ M.length = l.length ∧ gl bd M a j = gl bd L a i})
   (fun x => match x.1 with | (j, M) => [(0, .sb 0 l.length cap), (9, .d (.v (.int .i64 ((j : Nat) : Int))))]) [(1, _), (2, _), (3, _), (8, _)]
   (fun x => match x.1 with | (j, M) => [(0, a7 (M.map Pc.c) k)]) [] [] 1 (fun x => match x.1 with | (j, M) => j)
   [0] ⟨(i, L), ?_⟩ rfl ?_ ⟨rfl, rfl, rfl, rfl, rfl, rfl, rfl, rfl, trivial⟩ ?_ trivial rfl ?_
  · exact ⟨Nat.le_refl _, hL, rfl⟩
  · repeat' first | exact trivial | refine ⟨rfl, ?_⟩
  · repeat' first | exact trivial | refine ⟨congrArg some (ba _ _ _), ?_⟩
  rintro ⟨⟨j, M⟩, hj, hM, hJ⟩
  show W _ _ _ _ _ ⟨[(0, .sb 0 l.length cap), (9, .d (.v (.int .i64 ((j : Nat) : Int)))), (1, _), (2, _), (3, _), (8, _)], [(0, a7 (M.map Pc.c) k)], [], 1⟩
  iterate 2 refine W.seq ?_
  apply iX aa; (case hb => rfl); (case hB => kernel_rfl)
  ·
   iterate 4 refine ao (ev aa rfl) rfl ?_
   apply gV; (case hj => rfl); (case hl => rfl)
   ·
    intro g21
    refine aL rfl rfl (ev aa rfl) rfl ?_
    refine aL rfl rfl (ev aa rfl) rfl ?_
    refine aL rfl rfl (ev aa rfl) rfl ?_
    refine aL rfl rfl (bD aa rfl rfl rfl rfl rfl (Int.natCast_nonneg _) (show j < l.length by omega) rfl) rfl ?_
    refine aL rfl rfl (dP (i := j) aa rfl rfl rfl rfl (bZ M) (de (by omega))) rfl ?_
    refine aL rfl rfl (ev aa rfl) rfl ?_
    refine aL rfl rfl (ev aa rfl) rfl ?_
    refine aL rfl rfl (bL (ev aa rfl) (gy (x := j) (y := 1) (by have := of_decide_eq_true g21; omega) (by omega))) rfl ?_
    refine aL rfl rfl (bD aa rfl rfl rfl rfl rfl (Int.natCast_nonneg _) (show j - 1 < l.length by omega) rfl) rfl ?_
    refine aL rfl rfl (dP (i := j - 1) aa rfl rfl rfl rfl (bZ M) (de (by omega))) rfl ?_
    refine aL rfl rfl (ae rfl rfl rfl (jJ (el M j) (el M (j - 1))) rfl) rfl ?_
    refine aL rfl rfl (ev aa rfl) rfl ?_
    refine ao (ev aa rfl) rfl ?_
    refine CH.nil ?_
    refine aA rfl rfl rfl
   intro g21
   iterate 12 refine bt rfl rfl rfl rfl ?_
   refine ao (ev aa rfl) rfl ?_
   refine CH.nil ?_
   refine aA rfl rfl rfl
  refine qs (aq rfl (fun h34 => ?_) (fun h34 => ?_))
  ·
   have hc : a < j ∧ bd (el M j) (el M (j - 1)) = true := by simpa [bd] using h34
   obtain ⟨q, rfl⟩ : ∃ q, j = q + 1 := ⟨j - 1, by omega⟩
   have e1 : q + 1 - 1 = q := rfl
   rw [e1] at hc
   rw [oK, if_pos hc.1, if_pos hc.2] at hJ
   have ea : (M.map Pc.c)[q + 1]? = some (el M (q + 1)).c := de (by omega)
   have eb : (M.map Pc.c)[q]? = some (el M q).c := de (by omega)
   have eb2 : ((M.set (q + 1) (el M q)).map Pc.c)[q]? = some (el M q).c := by rw [de (by rw [List.length_set]; omega), kZ (by omega), if_neg (by omega)]
   have hsub : IntKind.i64.wrap (((q + 1 : Nat) : Int) - 1) = ((q : Nat) : Int) := by rw [wrap64 (by omega)]; omega
   refine W.skip (qs (W.seq (W.block ?_)))
   apply W.iU aa 16 15; (case hB => kernel_rfl); (case h1 => rfl); (case h2 => rfl)
   refine' bo (ev aa rfl) rfl rfl rfl rfl rfl ?h_1
   case' h_1 => skip
   refine' bo (ev aa rfl) rfl rfl rfl rfl rfl ?h_2
   case' h_2 => skip
   refine' bR ?p1_3 (ev aa rfl) rfl rfl rfl rfl rfl ?h_3
   case' h_3 => skip
   refine' bR ?p1_4 (ev aa rfl) rfl rfl rfl rfl rfl ?h_4
   case' h_4 => skip
   refine' bR ?p1_5 (bL (ev aa rfl) hsub) rfl rfl rfl rfl rfl ?h_5
   case' h_5 => skip
   refine' bo (ev aa rfl) rfl rfl rfl rfl rfl ?h_6
   case' h_6 => skip
   refine' bo (ev aa rfl) rfl rfl rfl rfl rfl ?h_7
   case' h_7 => skip
   refine' bo (bL (ev aa rfl) hsub) rfl rfl rfl rfl rfl ?h_8
   case' h_8 => skip
   refine' bo (bD aa rfl rfl rfl rfl rfl (Int.natCast_nonneg _) (show q < l.length by omega) rfl) rfl rfl rfl rfl rfl ?h_9
   case' h_9 => skip
   refine' bo (dP (i := q) aa rfl rfl rfl rfl (bZ M) eb) rfl rfl rfl rfl rfl ?h_10
   case' h_10 => skip
   refine' bR ?p1_11 (ev aa rfl) rfl rfl rfl rfl rfl ?h_11
   case' h_11 => skip
   refine' bR ?p1_12 (ev aa rfl) rfl rfl rfl rfl rfl ?h_12
   case' h_12 => skip
   refine' bR ?p1_13 (bD aa rfl rfl rfl rfl rfl (Int.natCast_nonneg _) (show q + 1 < l.length by omega) rfl) rfl rfl rfl rfl rfl ?h_13
   case' h_13 => skip
   refine' bo (dP (i := q + 1) aa rfl rfl rfl rfl (bZ M) ea) rfl rfl rfl rfl rfl ?h_14
   case' h_14 => skip
   refine' bo (bD aa rfl rfl rfl rfl rfl (Int.natCast_nonneg _) (show q + 1 < l.length by omega) rfl) rfl rfl rfl rfl rfl ?h_15
   case' h_15 => skip
   refine' lM (fun g => ?e_16) rfl rfl ?h_16
   case e_16 =>
    refine gX (i := q + 1) aa rfl rfl rfl rfl (bZ M) ea rfl rfl (gB (x := el M q)) ?_
    refine WO.nil ?_
    exact ⟨rfl, rfl⟩
   case' h_16 => skip
   case p1_3 => exact (ev aa rfl)
   case p1_4 => exact (ev aa rfl)
   case p1_5 => exact (bL (ev aa rfl) hsub)
   case p1_11 => exact (ev aa rfl)
   case p1_12 => exact (ev aa rfl)
   case p1_13 => exact (bD aa rfl rfl rfl rfl rfl (Int.natCast_nonneg _) (show q + 1 < l.length by omega) rfl)
   refine CC.nil ?_
   refine pu (bD aa rfl rfl rfl rfl rfl (Int.natCast_nonneg _) (show q < l.length by omega) rfl) rfl ?_
   refine gX (i := q) aa rfl rfl rfl rfl (bZ _) eb2 rfl rfl (gB (x := el M (q + 1))) ?_
   refine WO.nil (a0 (qs (W.region (pE rfl (pu (bL (ev aa rfl) hsub) rfl ?_)))))
   refine pE rfl (WO.nil (W.aY [0] ⟨(q, eC M (q + 1) q), ?_⟩ ?_ rfl ?_ ⟨rfl, rfl, rfl, rfl, rfl, rfl, rfl, rfl, trivial⟩ ?_ trivial rfl))
   · exact ⟨by omega, by rw [cV]; exact hM, hJ⟩
   · dsimp only; omega
   · repeat' first | exact trivial | refine ⟨rfl, ?_⟩
   repeat' first | exact trivial | refine ⟨congrArg some (ba _ _ _), ?_⟩
  have hX : gl bd L a i = M := by
   rw [← hJ]
   have hc : ¬ (a < j ∧ bd (el M j) (el M (j - 1)) = true) := by intro q; simp [bd] at h34; have := h34 q.1; simp [bd] at q; omega
   cases j with
   | zero => rfl
   | succ q =>
    rw [oK]
    rw [show q + 1 - 1 = q from rfl] at hc
    by_cases q1 : a < q + 1
    · rw [if_pos q1, if_neg (fun q2 => hc ⟨q1, q2⟩)]
    rw [if_neg q1]
  refine W.exit (aN (aR (aO (a0 (qs (W.region ?_))))))
  iterate 3 refine pE rfl ?_
  refine WO.nil (W.aY [0] ⟨(i + 1, M), ?_⟩ ?_ rfl ?_ ⟨rfl, rfl, rfl, rfl, rfl, rfl, trivial⟩ ?_ trivial rfl)
  · exact ⟨by omega, hM, by rw [hr2, ← hX]; exact hI⟩
  · dsimp only; omega
  · repeat' first | exact trivial | refine ⟨rfl, ?_⟩ | refine ⟨aE (by assumption) (by assumption), ?_⟩
  repeat' first | exact trivial | refine ⟨congrArg some (ba _ _ _), ?_⟩
 have hib : b - i = 0 := by simp at h14; omega
 rw [hib] at hI
 simp only [iP] at hI
 refine W.exit (aN (aR (aO (fQ.end aa [] trivial rfl rfl rfl rfl ?_ ?_))))
 · rw [← hI]; exact iH rfl
 rfl
theorem xI (l : List Pc) (a m b k cap f : Nat) (hcap : l.length ≤ 100000) (h1 : a < m) (h2 : m < b) (h3 : b ≤ l.length) (hf : m - a + (b - m) ≤ f) :
  cU Try.prog 86 [.sb 0 l.length cap, .d (.v (.int .i64 (a : Int))), .d (.v (.int .i64 (m : Int))), .d (.v (.int .i64 (b : Int))), .clo 34 []] [a7 (l.map Pc.c) k] 0 (.tup []) [a7 ((fN f l m (m - a) (b - m)).map Pc.c) k] 0 := by
 refine cU.fa aa (n := 58) (rs := []) Try.func86 (by kernel_rfl) rfl Try.ntmps86 Try.results86 rfl rfl fun C hC hG => ?_
 refine W.seq (W.region ?_)
 iterate 2 refine pE rfl ?_
 refine pu (bL (ev aa rfl) (gy (x := m) (y := a) (by omega) (by omega))) rfl ?_
 refine pE rfl (WO.nil (qs (W.seq (W.region ?_))))
 iterate 2 refine pE rfl ?_
 refine pu (bL (ev aa rfl) (gy (x := b) (y := m) (by omega) (by omega))) rfl ?_
 refine pE rfl (WO.nil (qs (W.seq (W.block ?_))))
 refine W.aW (ι := {x : Nat × Nat × Nat × List Pc // match x with | (g, i, j, L) => i + j ≤ g ∧ 0 < i ∧ 0 < j ∧ i ≤ m ∧ m + j ≤ l.length ∧ L.length = l.length ∧ fN g L m i j = fN f l m (m - a) (b - m)})
  (fun x => match x.1 with | (g, i, j, L) => [(0, .sb 0 l.length cap), (10, .d (.v (.int .i64 ((i : Nat) : Int)))), (11, .d (.v (.int .i64 ((j : Nat) : Int))))]) [(2, _), (4, _)]
  (fun x => match x.1 with | (g, i, j, L) => [(0, a7 (L.map Pc.c) k)]) [] [] 1 (fun x => match x.1 with | (g, i, j, L) => i + j)
  [0] ⟨(f, m - a, b - m, l), ?_⟩ rfl ?_ ⟨rfl, rfl, rfl, rfl, trivial⟩ ?_ trivial rfl ?_
 · exact ⟨hf, by omega, by omega, by omega, by omega, rfl, rfl⟩
 · repeat' first | exact trivial | refine ⟨rfl, ?_⟩
 · repeat' first | exact trivial | refine ⟨congrArg some (ba _ _ _), ?_⟩
 rintro ⟨⟨g, i, j, L⟩, hg, hi, hj, him, hjl, hL, hI⟩
 show W _ _ _ _ _ ⟨[(0, .sb 0 l.length cap), (10, .d (.v (.int .i64 ((i : Nat) : Int)))), (11, .d (.v (.int .i64 ((j : Nat) : Int)))), (2, _), (4, _)], [(0, a7 (L.map Pc.c) k)], [], 1⟩
 obtain ⟨g, rfl⟩ : ∃ q, g = q + 1 := ⟨g - 1, by omega⟩
 rw [vd] at hI
 iterate 2 refine W.seq ?_
 refine W.region ?_
 iterate 3 refine pE rfl ?_
 refine WO.nil (qs (aq rfl (fun h20 => ?_) (fun h20 => ?_)))
 ·
  have hij : i ≠ j := by simp at h20; omega
  rw [if_neg hij] at hI
  refine W.skip (qs (W.block (W.seq (W.region ?_))))
  iterate 3 refine pE rfl ?_
  refine WO.nil (qs (aq rfl (fun h23 => ?_) (fun h23 => ?_)))
  ·
   have hij2 : j < i := by simp at h23; omega
   have hbr := hij2
   rw [if_pos hij2] at hI
   have hsl := ov L (m - i) m j k cap (by omega) (by omega) (by omega)
   rw [hL] at hsl
   have hlen : (cZ L (m - i) m j 0).length = l.length := (dW (lo := 0) (hi := l.length) j 0 L (by omega) (by omega) (by omega) (by omega) (by omega) (by omega)).len.trans hL
   refine W.seq (W.region ?_)
   iterate 3 refine pE rfl ?_
   refine pu (bL (ev aa rfl) (gy (x := m) (y := i) (by omega) (by omega))) rfl ?_
   iterate 3 refine pE rfl ?_
   refine gM 0 rfl rfl rfl rfl hsl rfl ?_
   refine WO.nil (qs (W.region ?_))
   iterate 2 refine pE rfl ?_
   refine pu (bL (ev aa rfl) (gy (x := i) (y := j) (by omega) (by omega))) rfl ?_
   refine pE rfl (WO.nil (a0 ?_))
   (have _hb : j < i := hbr; refine W.aY [0] ⟨(g, i - j, j, cZ L (m - i) m j 0), ?_⟩ ?_ rfl ?_ ⟨rfl, rfl, rfl, rfl, trivial⟩ ?_ trivial rfl)
   · exact ⟨by omega, by omega, by omega, by omega, by omega, hlen, hI⟩
   · dsimp only; omega
   · repeat' first | exact trivial | refine ⟨rfl, ?_⟩
   repeat' first | exact trivial | refine ⟨congrArg some (ba _ _ _), ?_⟩
  have hij2 : ¬ j < i := by simp at h23; omega
  have hbr := hij2
  rw [if_neg hij2] at hI
  have hsl := ov L (m - i) (m + j - i) i k cap (by omega) (by omega) (by omega)
  rw [hL] at hsl
  have hlen : (cZ L (m - i) (m + j - i) i 0).length = l.length := (dW (lo := 0) (hi := l.length) i 0 L (by omega) (by omega) (by omega) (by omega) (by omega) (by omega)).len.trans hL
  refine W.seq (W.region ?_)
  iterate 3 refine pE rfl ?_
  refine pu (bL (ev aa rfl) (gy (x := m) (y := i) (by omega) (by omega))) rfl ?_
  iterate 2 refine pE rfl ?_
  refine pu (bL (ev aa rfl) (dV (x := m) (y := j) (by omega))) rfl ?_
  refine pE rfl (pu (bL (ev aa rfl) (gy (x := m + j) (y := i) (by omega) (by omega))) rfl ?_)
  iterate 2 refine pE rfl ?_
  refine gM 0 rfl rfl rfl rfl hsl rfl ?_
  refine WO.nil (qs (W.region ?_))
  iterate 2 refine pE rfl ?_
  refine pu (bL (ev aa rfl) (gy (x := j) (y := i) (by omega) (by omega))) rfl ?_
  refine pE rfl (WO.nil (a0 ?_))
  (have _hb : ¬ j < i := hbr; refine W.aY [0] ⟨(g, i, j - i, cZ L (m - i) (m + j - i) i 0), ?_⟩ ?_ rfl ?_ ⟨rfl, rfl, rfl, rfl, trivial⟩ ?_ trivial rfl)
  · exact ⟨by omega, by omega, by omega, by omega, by omega, hlen, hI⟩
  · dsimp only; omega
  · repeat' first | exact trivial | refine ⟨rfl, ?_⟩
  repeat' first | exact trivial | refine ⟨congrArg some (ba _ _ _), ?_⟩
 have hij : i = j := by simp at h20; omega
 rw [if_pos hij] at hI
 refine W.exit (aN (aR (aO (qs ?_))))
 have hsl := ov L (m - i) m i k cap (by omega) (by omega) (by omega)
 rw [hL] at hsl
 refine W.region ?_
 iterate 3 refine pE rfl ?_
 refine pu (bL (ev aa rfl) (gy (x := m) (y := i) (by omega) (by omega))) rfl ?_
 iterate 3 refine pE rfl ?_
 refine gM 0 rfl rfl rfl rfl hsl rfl ?_
 refine WO.nil (fQ.end aa [] trivial rfl rfl rfl rfl ?_ ?_)
 · rw [← hI]; exact iH rfl
 rfl
end Go.Proofs.Ytjenenllmjlimaa
