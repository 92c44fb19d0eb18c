/- EventSame: on every input the law's function returns true, and the input reads as it did. Conditions: the listed package-level variables hold what the program's text lays (the card ties them). -/
import Derived.SevenTiedAt
import Derived.Test.YtifeonoehfffmaaDoorCards
import Derived.Test.YtifeonoehfffmaaDoorTie
import Derived.Test.YtifeonoehfffmaaDoorQ3
namespace Go.Proofs.YtifeonoehfffmaaDoor
open Go.Ab Go.Tb
abbrev eventSameGs : List Nat := [25, 3, 22, 9, 23]
theorem eventSame_own : ownKnob Tryd.prog.godebug = none := by kernel_rfl
theorem eventSame_laidOut : laidOutB Tryd.prog = true := by kernel_rfl
set_option maxRecDepth 100000 in
theorem eventSame_lifted (hd : ∀ xs, ConfA tab [25, 25] xs → Does Tryd.prog 6 xs (.d (.v (.bool true))) 0) (os : Os) (started : os.Started) (H : Type) (enc : TypeId × Value → H) :
    ReturnsInHanded {} Tryd.checked os 6 .any (fun w args => (Rows.eventSameSpec.pre enc Tryd.prog Tryd.f6 Rows.eventSameRow.domain false w args ∧ laidMet Tryd.prog Rows.eventSameRow.laid w) ∧ sizedMet enc Tryd.prog Tryd.f6 (OpenSpec.ofChange Rows.eventSameSpec) false w args) (Rows.eventSameSpec.post enc Tryd.prog Tryd.f6 false true false false) := by
  refine returnsInHanded_of_laid (C := Tryd.checked) (X := fun w _ => laidMet Tryd.prog Rows.eventSameRow.laid w) (fun _ _ _ hh h => h.of_heap hh) eventSame_own started (by kernel_rfl) Tryd.func6
    (witness_laid (enc := enc) (C := Tryd.checked) (laid := Rows.eventSameRow.laid) false #[.agg #[.int .i64 0, .int .i64 0, .string ⟨#[]⟩, .int .i64 0, .int .i64 0, .slice none 0 0], .agg #[.int .i64 0, .int .i64 0, .string ⟨#[]⟩, .int .i64 0, .int .i64 0, .slice none 0 0]] 8 (by kernel_rfl) (by kernel_rfl) (by kernel_rfl) (by kernel_rfl) (by kernel_rfl) (by kernel_rfl) (by kernel_rfl)) ?_
  intro W base args ds gs before hval hW hshape hL
  refine law_contract tab (gs := eventSameGs) (tb := 4) (by kernel_rfl) ?_ eventSame_laidOut ?_ (by kernel_rfl) Tryd.underlying4 rfl ?_ ?_ W ⟨hshape, lmet W hL⟩ base args ds gs before hval hW
  · intro t ht
    have e : Tryd.f6.params.toList = [25, 25] := by kernel_rfl
    rw [e] at ht
    have hall : ([25, 25] : List Nat).all (fun t => eventSameGs.contains t) = true := by decide
    have := List.all_eq_true.1 hall t ht
    simpa using this
  · intro t ht
    have e : Tryd.f6.params.toList = [25, 25] := by kernel_rfl
    rw [e] at ht
    have hall : ([25, 25] : List Nat).all (fun t => Tryd.prog.readableRec t && decide (t < Tryd.prog.types.size)) = true := by kernel_rfl
    have := List.all_eq_true.1 hall t ht
    simpa using this
  · intro ds hlen
    have e : Tryd.f6.params.size = 2 := by kernel_rfl
    rw [e] at hlen
    match ds, hlen with
    | [d1, d2], _ => rfl
  · intro xs h
    have e : Tryd.f6.params.toList = [25, 25] := by kernel_rfl
    rw [e] at h
    exact hd xs h

theorem eventSame_of (hd : ∀ xs, ConfA tab [25, 25] xs → Does Tryd.prog 6 xs (.d (.v (.bool true))) 0) : Rows.EventSameSaid :=
  OpenClaim.holds_of_wide 6 Tryd.f6 rfl rfl rfl rfl rfl rfl rfl ⟨rfl, rfl, rfl, rfl, rfl⟩ rfl rfl rfl rfl rfl (by kernel_rfl) Tryd.func6 (by kernel_rfl)
    (of_decide_eq_true (by kernel_rfl)) (by unfold Func.isWrapper; first | (rw [if_pos (by decide +kernel)]; kernel_rfl) | (rw [if_neg (by decide +kernel)]; exact ⟨rfl, rfl⟩))
    (fun os started H enc _ => eventSame_lifted hd os started H enc)

theorem eventSame_data : ∀ xs, ConfA tab [25, 25] xs → Does Tryd.prog 6 xs (.d (.v (.bool true))) 0 := by
  intro xs h
  obtain ⟨l0, r0, rfl, c0, h⟩ := h.inv
  obtain ⟨l1, r1, rfl, c1, h⟩ := h.inv
  have := h.inv0
  subst this
  obtain ⟨x0, rfl⟩ := conf_event c0 rfl rfl rfl rfl rfl
  obtain ⟨x1, rfl⟩ := conf_event c1 rfl rfl rfl rfl rfl
  exact esame_fn x0 x1

theorem eventSame_holds : Rows.EventSameSaid := eventSame_of eventSame_data
theorem eventSame_card : Rows.EventSameCardSaid :=
  Claim7.holds_tied_plain_at .later [] [.data, .data, .data, .data, .sentinel, .sentinel, .pinned] true (true, "9cb987d1e2dd43f97d3442ac3c1d31008cc84574ce43b993d82f3956cfeb313b") true
    eventSame_holds (fun _ h => by cases h) (by kernel_rfl) (fun _ h => by cases h) eventSame_row_tie rfl ⟨rfl, rfl⟩ (by kernel_rfl) rfl
    (fun f fn hf hfn => by
      obtain rfl : f = 6 := Option.some.inj ((show Tryd.prog.funcNamed "tracebook/tracebooklaw07.EventSame" = some 6 by kernel_rfl).symm.trans hf) |>.symm
      obtain rfl : fn = Tryd.f6 := (Option.some.inj (Tryd.func6.symm.trans hfn)).symm
      exact ⟨by kernel_rfl, fun j t ht => by
        have e : Tryd.f6.params.toList = [25, 25] := by kernel_rfl
        have hm : t ∈ ([25, 25] : List Nat) := by rw [← e]; exact Array.mem_toList_iff.2 (Array.mem_of_getElem? ht)
        have hall : (([25, 25] : List Nat).all fun u => !Tryd.prog.wantsStandIn u) = true := by kernel_rfl
        exact (show Tryd.prog.wantsStandIn t = false by simpa using List.all_eq_true.1 hall t hm)⟩)
    (by kernel_rfl)
#print axioms eventSame_card
end Go.Proofs.YtifeonoehfffmaaDoor
