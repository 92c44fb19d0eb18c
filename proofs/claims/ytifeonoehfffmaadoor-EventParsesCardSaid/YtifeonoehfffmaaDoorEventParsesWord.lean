/- EventParses: on every input the law's function returns true, and the input reads as it did. Conditions: the listed package-level variables hold what the program's text lays (the card ties them). -/
import Derived.SevenTiedAt
import Derived.Test.YtifeonoehfffmaaDoorCards
import Derived.Test.YtifeonoehfffmaaDoorTie
import Derived.Test.YtifeonoehfffmaaDoorQ4
namespace Go.Proofs.YtifeonoehfffmaaDoor
open Go.Ab Go.Tb
abbrev eventParsesGs : List Nat := [9]
theorem eventParses_own : ownKnob Tryd.prog.godebug = none := by kernel_rfl
theorem eventParses_laidOut : laidOutB Tryd.prog = true := by kernel_rfl
set_option maxRecDepth 100000 in
theorem eventParses_lifted (hd : ∀ xs, ConfA tab [9] xs → Does Tryd.prog 5 xs (.d (.v (.bool true))) 0) (os : Os) (started : os.Started) (H : Type) (enc : TypeId × Value → H) :
    ReturnsInHanded {} Tryd.checked os 5 .any (fun w args => (Rows.eventParsesSpec.pre enc Tryd.prog Tryd.f5 Rows.eventParsesRow.domain false w args ∧ laidMet Tryd.prog Rows.eventParsesRow.laid w) ∧ sizedMet enc Tryd.prog Tryd.f5 (OpenSpec.ofChange Rows.eventParsesSpec) false w args) (Rows.eventParsesSpec.post enc Tryd.prog Tryd.f5 false true false false) := by
  refine returnsInHanded_of_laid (C := Tryd.checked) (X := fun w _ => laidMet Tryd.prog Rows.eventParsesRow.laid w) (fun _ _ _ hh h => h.of_heap hh) eventParses_own started (by kernel_rfl) Tryd.func5
    (witness_laid (enc := enc) (C := Tryd.checked) (laid := Rows.eventParsesRow.laid) false #[.string ⟨#[]⟩] 8 (by kernel_rfl) (by kernel_rfl) (by kernel_rfl) (by kernel_rfl) (by kernel_rfl) (by kernel_rfl) (by kernel_rfl)) ?_
  intro W base args ds gs before hval hW hshape hL
  refine law_contract tab (gs := eventParsesGs) (tb := 4) (by kernel_rfl) ?_ eventParses_laidOut ?_ (by kernel_rfl) Tryd.underlying4 rfl ?_ ?_ W ⟨hshape, lmet W hL⟩ base args ds gs before hval hW
  · intro t ht
    have e : Tryd.f5.params.toList = [9] := by kernel_rfl
    rw [e] at ht
    have hall : ([9] : List Nat).all (fun t => eventParsesGs.contains t) = true := by decide
    have := List.all_eq_true.1 hall t ht
    simpa using this
  · intro t ht
    have e : Tryd.f5.params.toList = [9] := by kernel_rfl
    rw [e] at ht
    have hall : ([9] : List Nat).all (fun t => Tryd.prog.readableRec t && decide (t < Tryd.prog.types.size)) = true := by kernel_rfl
    have := List.all_eq_true.1 hall t ht
    simpa using this
  · intro ds hlen
    have e : Tryd.f5.params.size = 1 := by kernel_rfl
    rw [e] at hlen
    match ds, hlen with
    | [d1], _ => rfl
  · intro xs h
    have e : Tryd.f5.params.toList = [9] := by kernel_rfl
    rw [e] at h
    exact hd xs h

theorem eventParses_of (hd : ∀ xs, ConfA tab [9] xs → Does Tryd.prog 5 xs (.d (.v (.bool true))) 0) : Rows.EventParsesSaid :=
  OpenClaim.holds_of_wide 5 Tryd.f5 rfl rfl rfl rfl rfl rfl rfl ⟨rfl, rfl, rfl, rfl, rfl⟩ rfl rfl rfl rfl rfl (by kernel_rfl) Tryd.func5 (by kernel_rfl)
    (of_decide_eq_true (by kernel_rfl)) (by unfold Func.isWrapper; first | (rw [if_pos (by decide +kernel)]; kernel_rfl) | (rw [if_neg (by decide +kernel)]; exact ⟨rfl, rfl⟩))
    (fun os started H enc _ => eventParses_lifted hd os started H enc)

theorem eventParses_data : ∀ xs, ConfA tab [9] xs → Does Tryd.prog 5 xs (.d (.v (.bool true))) 0 := by
  intro xs h
  obtain ⟨l0, r0, rfl, c0, h⟩ := h.inv
  have := h.inv0
  subst this
  obtain ⟨x0, rfl⟩ := conf_str c0 rfl
  exact eparses_fn x0

theorem eventParses_holds : Rows.EventParsesSaid := eventParses_of eventParses_data
theorem eventParses_card : Rows.EventParsesCardSaid :=
  Claim7.holds_tied_plain_at .later [] [.data, .data, .data, .data, .sentinel, .sentinel, .pinned] true (true, "9cb987d1e2dd43f97d3442ac3c1d31008cc84574ce43b993d82f3956cfeb313b") true
    eventParses_holds (fun _ h => by cases h) (by kernel_rfl) (fun _ h => by cases h) eventParses_row_tie rfl ⟨rfl, rfl⟩ (by kernel_rfl) rfl
    (fun f fn hf hfn => by
      obtain rfl : f = 5 := Option.some.inj ((show Tryd.prog.funcNamed "tracebook/tracebooklaw07.EventParses" = some 5 by kernel_rfl).symm.trans hf) |>.symm
      obtain rfl : fn = Tryd.f5 := (Option.some.inj (Tryd.func5.symm.trans hfn)).symm
      exact ⟨by kernel_rfl, fun j t ht => by
        have e : Tryd.f5.params.toList = [9] := by kernel_rfl
        have hm : t ∈ ([9] : List Nat) := by rw [← e]; exact Array.mem_toList_iff.2 (Array.mem_of_getElem? ht)
        have hall : (([9] : List Nat).all fun u => !Tryd.prog.wantsStandIn u) = true := by kernel_rfl
        exact (show Tryd.prog.wantsStandIn t = false by simpa using List.all_eq_true.1 hall t hm)⟩)
    (by kernel_rfl)
#print axioms eventParses_card
end Go.Proofs.YtifeonoehfffmaaDoor
