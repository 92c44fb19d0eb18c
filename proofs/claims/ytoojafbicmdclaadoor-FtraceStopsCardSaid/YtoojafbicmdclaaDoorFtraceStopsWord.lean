/- FtraceStops: on every input the law's function returns true, and the input reads as it did. Conditions: the listed package-level variables hold what the program's text lays (the card ties them). -/
import Derived.SevenTiedAt
import Derived.Test.YtoojafbicmdclaaDoorCards
import Derived.Test.YtoojafbicmdclaaDoorTie
import Derived.Test.YtoojafbicmdclaaDoorQ5
namespace Go.Proofs.YtoojafbicmdclaaDoor
open Go.Ab Go.Tb
abbrev ftraceStopsGs : List Nat := [9]
theorem ftraceStops_own : ownKnob Tryd.prog.godebug = none := by kernel_rfl
theorem ftraceStops_laidOut : laidOutB Tryd.prog = true := by kernel_rfl
set_option maxRecDepth 100000 in
theorem ftraceStops_lifted (hd : ∀ xs, ConfA tab [9] xs → Does Tryd.prog 6 xs (.d (.v (.bool true))) 0) (os : Os) (started : os.Started) (H : Type) (enc : TypeId × Value → H) :
    ReturnsInHanded {} Tryd.checked os 6 .any (fun w args => (Rows.ftraceStopsSpec.pre enc Tryd.prog Tryd.f6 Rows.ftraceStopsRow.domain false w args ∧ laidMet Tryd.prog Rows.ftraceStopsRow.laid w) ∧ sizedMet enc Tryd.prog Tryd.f6 (OpenSpec.ofChange Rows.ftraceStopsSpec) false w args) (Rows.ftraceStopsSpec.post enc Tryd.prog Tryd.f6 false true false false) := by
  refine returnsInHanded_of_laid (C := Tryd.checked) (X := fun w _ => laidMet Tryd.prog Rows.ftraceStopsRow.laid w) (fun _ _ _ hh h => h.of_heap hh) ftraceStops_own started (by kernel_rfl) Tryd.func6
    (witness_laid (enc := enc) (C := Tryd.checked) (laid := Rows.ftraceStopsRow.laid) false #[.string ⟨#[]⟩] 8 (by kernel_rfl) (by kernel_rfl) (by kernel_rfl) (by kernel_rfl) (by kernel_rfl) (by kernel_rfl) (by kernel_rfl)) ?_
  intro W base args ds gs before hval hW hshape hL
  refine law_contract tab (gs := ftraceStopsGs) (tb := 4) (by kernel_rfl) ?_ ftraceStops_laidOut ?_ (by kernel_rfl) Tryd.underlying4 rfl ?_ ?_ W ⟨hshape, lmet W hL⟩ base args ds gs before hval hW
  · intro t ht
    have e : Tryd.f6.params.toList = [9] := by kernel_rfl
    rw [e] at ht
    have hall : ([9] : List Nat).all (fun t => ftraceStopsGs.contains t) = true := by decide
    have := List.all_eq_true.1 hall t ht
    simpa using this
  · intro t ht
    have e : Tryd.f6.params.toList = [9] := by kernel_rfl
    rw [e] at ht
    have hall : ([9] : List Nat).all (fun t => Tryd.prog.readableRec t && decide (t < Tryd.prog.types.size)) = true := by kernel_rfl
    have := List.all_eq_true.1 hall t ht
    simpa using this
  · intro ds hlen
    have e : Tryd.f6.params.size = 1 := by kernel_rfl
    rw [e] at hlen
    match ds, hlen with
    | [d1], _ => rfl
  · intro xs h
    have e : Tryd.f6.params.toList = [9] := by kernel_rfl
    rw [e] at h
    exact hd xs h

theorem ftraceStops_of (hd : ∀ xs, ConfA tab [9] xs → Does Tryd.prog 6 xs (.d (.v (.bool true))) 0) : Rows.FtraceStopsSaid :=
  OpenClaim.holds_of_wide 6 Tryd.f6 rfl rfl rfl rfl rfl rfl rfl ⟨rfl, rfl, rfl, rfl, rfl⟩ rfl rfl rfl rfl rfl (by kernel_rfl) Tryd.func6 (by kernel_rfl)
    (of_decide_eq_true (by kernel_rfl)) (by unfold Func.isWrapper; first | (rw [if_pos (by decide +kernel)]; kernel_rfl) | (rw [if_neg (by decide +kernel)]; exact ⟨rfl, rfl⟩))
    (fun os started H enc _ => ftraceStops_lifted hd os started H enc)

theorem ftraceStops_data : ∀ xs, ConfA tab [9] xs → Does Tryd.prog 6 xs (.d (.v (.bool true))) 0 := by
  intro xs h
  obtain ⟨l0, r0, rfl, c0, h⟩ := h.inv
  have := h.inv0
  subst this
  obtain ⟨x0, rfl⟩ := conf_str c0 rfl
  exact fstops_fn x0

theorem ftraceStops_holds : Rows.FtraceStopsSaid := ftraceStops_of ftraceStops_data
theorem ftraceStops_card : Rows.FtraceStopsCardSaid :=
  Claim7.holds_tied_plain_at .later [] [.data, .data, .data, .data, .sentinel, .sentinel, .pinned] true (true, "5fbe8582c8e33cff824125d763096d7c15d6a05ac8f9bd9fd8bcc326d603db89") true
    ftraceStops_holds (fun _ h => by cases h) (by kernel_rfl) (fun _ h => by cases h) ftraceStops_row_tie rfl ⟨rfl, rfl⟩ (by kernel_rfl) rfl
    (fun f fn hf hfn => by
      obtain rfl : f = 6 := Option.some.inj ((show Tryd.prog.funcNamed "tracebook/tracebooklaw23.FtraceStops" = some 6 by kernel_rfl).symm.trans hf) |>.symm
      obtain rfl : fn = Tryd.f6 := (Option.some.inj (Tryd.func6.symm.trans hfn)).symm
      exact ⟨by kernel_rfl, fun j t ht => by
        have e : Tryd.f6.params.toList = [9] := by kernel_rfl
        have hm : t ∈ ([9] : List Nat) := by rw [← e]; exact Array.mem_toList_iff.2 (Array.mem_of_getElem? ht)
        have hall : (([9] : List Nat).all fun u => !Tryd.prog.wantsStandIn u) = true := by kernel_rfl
        exact (show Tryd.prog.wantsStandIn t = false by simpa using List.all_eq_true.1 hall t hm)⟩)
    (by kernel_rfl)
#print axioms ftraceStops_card
end Go.Proofs.YtoojafbicmdclaaDoor
