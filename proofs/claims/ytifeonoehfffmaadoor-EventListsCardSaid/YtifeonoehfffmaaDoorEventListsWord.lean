/- EventLists: on every input the law's function returns true, and the input reads as it did. Conditions: the listed package-level variables hold what the program's text lays (the card ties them). -/
import Derived.SevenTiedAt
import Derived.Test.YtifeonoehfffmaaDoorCards
import Derived.Test.YtifeonoehfffmaaDoorTie
import Derived.Test.YtifeonoehfffmaaDoorQ4
namespace Go.Proofs.YtifeonoehfffmaaDoor
open Go.Ab Go.Tb
abbrev eventListsGs : List Nat := [36, 25, 3, 22, 9, 23, 5]
theorem eventLists_own : ownKnob Tryd.prog.godebug = none := by kernel_rfl
theorem eventLists_laidOut : laidOutB Tryd.prog = true := by kernel_rfl
set_option maxRecDepth 100000 in
theorem eventLists_lifted (hd : ∀ xs, ConfA tab [36, 5, 5] xs → Does Tryd.prog 8 xs (.d (.v (.bool true))) 0) (os : Os) (started : os.Started) (H : Type) (enc : TypeId × Value → H) :
    ReturnsInHanded {} Tryd.checked os 8 .any (fun w args => (Rows.eventListsSpec.pre enc Tryd.prog Tryd.f8 Rows.eventListsRow.domain false w args ∧ laidMet Tryd.prog Rows.eventListsRow.laid w) ∧ sizedMet enc Tryd.prog Tryd.f8 (OpenSpec.ofChange Rows.eventListsSpec) false w args) (Rows.eventListsSpec.post enc Tryd.prog Tryd.f8 false true false false) := by
  refine returnsInHanded_of_laid (C := Tryd.checked) (X := fun w _ => laidMet Tryd.prog Rows.eventListsRow.laid w) (fun _ _ _ hh h => h.of_heap hh) eventLists_own started (by kernel_rfl) Tryd.func8
    (witness_laid (enc := enc) (C := Tryd.checked) (laid := Rows.eventListsRow.laid) false #[.slice none 0 0, .int .u8 0, .int .u8 0] 8 (by kernel_rfl) (by kernel_rfl) (by kernel_rfl) (by kernel_rfl) (by kernel_rfl) (by kernel_rfl) (by kernel_rfl)) ?_
  intro W base args ds gs before hval hW hshape hL
  refine law_contract tab (gs := eventListsGs) (tb := 4) (by kernel_rfl) ?_ eventLists_laidOut ?_ (by kernel_rfl) Tryd.underlying4 rfl ?_ ?_ W ⟨hshape, lmet W hL⟩ base args ds gs before hval hW
  · intro t ht
    have e : Tryd.f8.params.toList = [36, 5, 5] := by kernel_rfl
    rw [e] at ht
    have hall : ([36, 5, 5] : List Nat).all (fun t => eventListsGs.contains t) = true := by decide
    have := List.all_eq_true.1 hall t ht
    simpa using this
  · intro t ht
    have e : Tryd.f8.params.toList = [36, 5, 5] := by kernel_rfl
    rw [e] at ht
    have hall : ([36, 5, 5] : List Nat).all (fun t => Tryd.prog.readableRec t && decide (t < Tryd.prog.types.size)) = true := by kernel_rfl
    have := List.all_eq_true.1 hall t ht
    simpa using this
  · intro ds hlen
    have e : Tryd.f8.params.size = 3 := by kernel_rfl
    rw [e] at hlen
    match ds, hlen with
    | [d1, d2, d3], _ => rfl
  · intro xs h
    have e : Tryd.f8.params.toList = [36, 5, 5] := by kernel_rfl
    rw [e] at h
    exact hd xs h

theorem eventLists_of (hd : ∀ xs, ConfA tab [36, 5, 5] xs → Does Tryd.prog 8 xs (.d (.v (.bool true))) 0) : Rows.EventListsSaid :=
  OpenClaim.holds_of_wide 8 Tryd.f8 rfl rfl rfl rfl rfl rfl rfl ⟨rfl, rfl, rfl, rfl, rfl⟩ rfl rfl rfl rfl rfl (by kernel_rfl) Tryd.func8 (by kernel_rfl)
    (of_decide_eq_true (by kernel_rfl)) (by unfold Func.isWrapper; first | (rw [if_pos (by decide +kernel)]; kernel_rfl) | (rw [if_neg (by decide +kernel)]; exact ⟨rfl, rfl⟩))
    (fun os started H enc _ => eventLists_lifted hd os started H enc)

theorem eventLists_data : ∀ xs, ConfA tab [36, 5, 5] xs → Does Tryd.prog 8 xs (.d (.v (.bool true))) 0 := by
  intro xs h
  obtain ⟨l0, r0, rfl, c0, h⟩ := h.inv
  obtain ⟨l1, r1, rfl, c1, h⟩ := h.inv
  obtain ⟨l2, r2, rfl, c2, h⟩ := h.inv
  have := h.inv0
  subst this
  obtain ⟨x0, rfl⟩ := conf_sl c0 rfl (fun x hx => conf_event hx rfl rfl rfl rfl rfl)
  obtain ⟨x1, rfl, hu1⟩ := Conf.toInt c1 rfl
  obtain ⟨x2, rfl, hu2⟩ := Conf.toInt c2 rfl
  exact elists_fn x0 x1 x2 hu1 hu2

theorem eventLists_holds : Rows.EventListsSaid := eventLists_of eventLists_data
theorem eventLists_card : Rows.EventListsCardSaid :=
  Claim7.holds_tied_plain_at .later [] [.data, .data, .data, .data, .sentinel, .sentinel, .pinned] true (true, "9cb987d1e2dd43f97d3442ac3c1d31008cc84574ce43b993d82f3956cfeb313b") true
    eventLists_holds (fun _ h => by cases h) (by kernel_rfl) (fun _ h => by cases h) eventLists_row_tie rfl ⟨rfl, rfl⟩ (by kernel_rfl) rfl
    (fun f fn hf hfn => by
      obtain rfl : f = 8 := Option.some.inj ((show Tryd.prog.funcNamed "tracebook/tracebooklaw07.EventLists" = some 8 by kernel_rfl).symm.trans hf) |>.symm
      obtain rfl : fn = Tryd.f8 := (Option.some.inj (Tryd.func8.symm.trans hfn)).symm
      exact ⟨by kernel_rfl, fun j t ht => by
        have e : Tryd.f8.params.toList = [36, 5, 5] := by kernel_rfl
        have hm : t ∈ ([36, 5, 5] : List Nat) := by rw [← e]; exact Array.mem_toList_iff.2 (Array.mem_of_getElem? ht)
        have hall : (([36, 5, 5] : List Nat).all fun u => !Tryd.prog.wantsStandIn u) = true := by kernel_rfl
        exact (show Tryd.prog.wantsStandIn t = false by simpa using List.all_eq_true.1 hall t hm)⟩)
    (by kernel_rfl)
#print axioms eventLists_card
end Go.Proofs.YtifeonoehfffmaaDoor
