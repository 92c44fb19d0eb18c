/- FoldedOrder: on every input the law's function returns true, and the input reads as it did. Conditions: the listed package-level variables hold what the program's text lays (the card ties them). -/
import Derived.SevenTiedAt
import Derived.Test.YtmhnnodofahpdaaGreatDoorCards
import Derived.Test.YtmhnnodofahpdaaGreatDoorTie
import Derived.Test.YtmhnnodofahpdaaGreatDoorQ4
namespace Go.Proofs.YtmhnnodofahpdaaGreatDoor
open Go.Ab Go.Tb
abbrev foldedOrderGs : List Nat := [23, 37, 3, 35, 9, 5]
theorem foldedOrder_own : ownKnob Tryz.prog.godebug = none := by kernel_rfl
theorem foldedOrder_laidOut : laidOutB Tryz.prog = true := by kernel_rfl
set_option maxRecDepth 100000 in
theorem foldedOrder_lifted (hd : ∀ xs, ConfA tab [23, 5, 3] xs → Does Tryz.prog 6 xs (.d (.v (.bool true))) 0) (os : Os) (started : os.Started) (H : Type) (enc : TypeId × Value → H) :
    ReturnsInHanded {} Tryz.checked os 6 .any (fun w args => (Rows.foldedOrderSpec.pre enc Tryz.prog Tryz.f6 Rows.foldedOrderRow.domain false w args ∧ laidMet Tryz.prog Rows.foldedOrderRow.laid w) ∧ sizedMet enc Tryz.prog Tryz.f6 (OpenSpec.ofChange Rows.foldedOrderSpec) false w args) (Rows.foldedOrderSpec.post enc Tryz.prog Tryz.f6 false true false false) := by
  refine returnsInHanded_of_laid (C := Tryz.checked) (X := fun w _ => laidMet Tryz.prog Rows.foldedOrderRow.laid w) (fun _ _ _ hh h => h.of_heap hh) foldedOrder_own started (by kernel_rfl) Tryz.func6
    (witness_laid (enc := enc) (C := Tryz.checked) (laid := Rows.foldedOrderRow.laid) false #[.slice none 0 0, .int .u8 0, .int .i64 0] 8 (by kernel_rfl) (by kernel_rfl) (by kernel_rfl) (by kernel_rfl) (by kernel_rfl) (by kernel_rfl) (by kernel_rfl)) ?_
  intro W base args ds gs before hval hW hshape hL
  refine law_contract tab (gs := foldedOrderGs) (tb := 4) (by kernel_rfl) ?_ foldedOrder_laidOut ?_ (by kernel_rfl) Tryz.underlying4 rfl ?_ ?_ W ⟨hshape, lmet W hL⟩ base args ds gs before hval hW
  · intro t ht
    have e : Tryz.f6.params.toList = [23, 5, 3] := by kernel_rfl
    rw [e] at ht
    have hall : ([23, 5, 3] : List Nat).all (fun t => foldedOrderGs.contains t) = true := by decide
    have := List.all_eq_true.1 hall t ht
    simpa using this
  · intro t ht
    have e : Tryz.f6.params.toList = [23, 5, 3] := by kernel_rfl
    rw [e] at ht
    have hall : ([23, 5, 3] : List Nat).all (fun t => Tryz.prog.readableRec t && decide (t < Tryz.prog.types.size)) = true := by kernel_rfl
    have := List.all_eq_true.1 hall t ht
    simpa using this
  · intro ds hlen
    have e : Tryz.f6.params.size = 3 := by kernel_rfl
    rw [e] at hlen
    match ds, hlen with
    | [d1, d2, d3], _ => rfl
  · intro xs h
    have e : Tryz.f6.params.toList = [23, 5, 3] := by kernel_rfl
    rw [e] at h
    exact hd xs h

theorem foldedOrder_of (hd : ∀ xs, ConfA tab [23, 5, 3] xs → Does Tryz.prog 6 xs (.d (.v (.bool true))) 0) : Rows.FoldedOrderSaid :=
  OpenClaim.holds_of_wide 6 Tryz.f6 rfl rfl rfl rfl rfl rfl rfl ⟨rfl, rfl, rfl, rfl, rfl⟩ rfl rfl rfl rfl rfl (by kernel_rfl) Tryz.func6 (by kernel_rfl)
    (of_decide_eq_true (by kernel_rfl)) (by unfold Func.isWrapper; first | (rw [if_pos (by decide +kernel)]; kernel_rfl) | (rw [if_neg (by decide +kernel)]; exact ⟨rfl, rfl⟩))
    (fun os started H enc _ => foldedOrder_lifted hd os started H enc)

theorem foldedOrder_data : ∀ xs, ConfA tab [23, 5, 3] xs → Does Tryz.prog 6 xs (.d (.v (.bool true))) 0 := by
  intro xs h
  obtain ⟨l0, r0, rfl, c0, h⟩ := h.inv
  obtain ⟨l1, r1, rfl, c1, h⟩ := h.inv
  obtain ⟨l2, r2, rfl, c2, h⟩ := h.inv
  have := h.inv0
  subst this
  obtain ⟨x0, rfl⟩ := conf_sl c0 rfl (fun x hx => conf_smp hx rfl rfl rfl rfl)
  obtain ⟨x1, rfl, hu1⟩ := Conf.toInt c1 rfl
  obtain ⟨x2, rfl⟩ := conf_int c2 rfl
  exact forder_fn2 x0 x1 x2 hu1

theorem foldedOrder_holds : Rows.FoldedOrderSaid := foldedOrder_of foldedOrder_data
theorem foldedOrder_card : Rows.FoldedOrderCardSaid :=
  Claim7.holds_tied_plain_at .later [] [.data, .data, .data, .data, .sentinel, .sentinel, .pinned] true (true, "d7c56710f4931d52fe46f3184bfdc617518c097332128930fee9be6908f43e38") true
    foldedOrder_holds (fun _ h => by cases h) (by kernel_rfl) (fun _ h => by cases h) foldedOrder_row_tie rfl ⟨rfl, rfl⟩ (by kernel_rfl) rfl
    (fun f fn hf hfn => by
      obtain rfl : f = 6 := Option.some.inj ((show Tryz.prog.funcNamed "tracebook/tracebooklaw24.FoldedOrder" = some 6 by kernel_rfl).symm.trans hf) |>.symm
      obtain rfl : fn = Tryz.f6 := (Option.some.inj (Tryz.func6.symm.trans hfn)).symm
      exact ⟨by kernel_rfl, fun j t ht => by
        have e : Tryz.f6.params.toList = [23, 5, 3] := by kernel_rfl
        have hm : t ∈ ([23, 5, 3] : List Nat) := by rw [← e]; exact Array.mem_toList_iff.2 (Array.mem_of_getElem? ht)
        have hall : (([23, 5, 3] : List Nat).all fun u => !Tryz.prog.wantsStandIn u) = true := by kernel_rfl
        exact (show Tryz.prog.wantsStandIn t = false by simpa using List.all_eq_true.1 hall t hm)⟩)
    (by kernel_rfl)
#print axioms foldedOrder_card
end Go.Proofs.YtmhnnodofahpdaaGreatDoor
