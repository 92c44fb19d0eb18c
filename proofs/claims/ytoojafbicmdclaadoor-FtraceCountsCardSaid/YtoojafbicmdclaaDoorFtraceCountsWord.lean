/- FtraceCounts: on every input the law's function returns true, and the input reads as it did. Conditions: the listed package-level variables hold what the program's text lays (the card ties them). -/
import Derived.SevenTiedAt
import Derived.Test.YtoojafbicmdclaaDoorCards
import Derived.Test.YtoojafbicmdclaaDoorTie
import Derived.Test.YtoojafbicmdclaaDoorQ5
namespace Go.Proofs.YtoojafbicmdclaaDoor
open Go.Ab Go.Tb
abbrev ftraceCountsGs : List Nat := [9]
theorem ftraceCounts_own : ownKnob Tryd.prog.godebug = none := by kernel_rfl
theorem ftraceCounts_laidOut : laidOutB Tryd.prog = true := by kernel_rfl
set_option maxRecDepth 100000 in
theorem ftraceCounts_lifted (hd : ∀ xs, ConfA tab [9] xs → Does Tryd.prog 5 xs (.d (.v (.bool true))) 0) (os : Os) (started : os.Started) (H : Type) (enc : TypeId × Value → H) :
    ReturnsInHanded {} Tryd.checked os 5 .any (fun w args => (Rows.ftraceCountsSpec.pre enc Tryd.prog Tryd.f5 Rows.ftraceCountsRow.domain false w args ∧ laidMet Tryd.prog Rows.ftraceCountsRow.laid w) ∧ sizedMet enc Tryd.prog Tryd.f5 (OpenSpec.ofChange Rows.ftraceCountsSpec) false w args) (Rows.ftraceCountsSpec.post enc Tryd.prog Tryd.f5 false true false false) := by
  refine returnsInHanded_of_laid (C := Tryd.checked) (X := fun w _ => laidMet Tryd.prog Rows.ftraceCountsRow.laid w) (fun _ _ _ hh h => h.of_heap hh) ftraceCounts_own started (by kernel_rfl) Tryd.func5
    (witness_laid (enc := enc) (C := Tryd.checked) (laid := Rows.ftraceCountsRow.laid) false #[.string ⟨#[]⟩] 8 (by kernel_rfl) (by kernel_rfl) (by kernel_rfl) (by kernel_rfl) (by kernel_rfl) (by kernel_rfl) (by kernel_rfl)) ?_
  intro W base args ds gs before hval hW hshape hL
  refine law_contract tab (gs := ftraceCountsGs) (tb := 4) (by kernel_rfl) ?_ ftraceCounts_laidOut ?_ (by kernel_rfl) Tryd.underlying4 rfl ?_ ?_ W ⟨hshape, lmet W hL⟩ base args ds gs before hval hW
  · intro t ht
    have e : Tryd.f5.params.toList = [9] := by kernel_rfl
    rw [e] at ht
    have hall : ([9] : List Nat).all (fun t => ftraceCountsGs.contains t) = true := by decide
    have := List.all_eq_true.1 hall t ht
    simpa using this
  · intro t ht
    have e : Tryd.f5.params.toList = [9] := by kernel_rfl
    rw [e] at ht
    have hall : ([9] : List Nat).all (fun t => Tryd.prog.readableRec t && decide (t < Tryd.prog.types.size)) = true := by kernel_rfl
    have := List.all_eq_true.1 hall t ht
    simpa using this
  · intro ds hlen
    have e : Tryd.f5.params.size = 1 := by kernel_rfl
    rw [e] at hlen
    match ds, hlen with
    | [d1], _ => rfl
  · intro xs h
    have e : Tryd.f5.params.toList = [9] := by kernel_rfl
    rw [e] at h
    exact hd xs h

theorem ftraceCounts_of (hd : ∀ xs, ConfA tab [9] xs → Does Tryd.prog 5 xs (.d (.v (.bool true))) 0) : Rows.FtraceCountsSaid :=
  OpenClaim.holds_of_wide 5 Tryd.f5 rfl rfl rfl rfl rfl rfl rfl ⟨rfl, rfl, rfl, rfl, rfl⟩ rfl rfl rfl rfl rfl (by kernel_rfl) Tryd.func5 (by kernel_rfl)
    (of_decide_eq_true (by kernel_rfl)) (by unfold Func.isWrapper; first | (rw [if_pos (by decide +kernel)]; kernel_rfl) | (rw [if_neg (by decide +kernel)]; exact ⟨rfl, rfl⟩))
    (fun os started H enc _ => ftraceCounts_lifted hd os started H enc)

theorem ftraceCounts_data : ∀ xs, ConfA tab [9] xs → Does Tryd.prog 5 xs (.d (.v (.bool true))) 0 := by
  intro xs h
  obtain ⟨l0, r0, rfl, c0, h⟩ := h.inv
  have := h.inv0
  subst this
  obtain ⟨x0, rfl⟩ := conf_str c0 rfl
  exact fcounts_fn x0

theorem ftraceCounts_holds : Rows.FtraceCountsSaid := ftraceCounts_of ftraceCounts_data
theorem ftraceCounts_card : Rows.FtraceCountsCardSaid :=
  Claim7.holds_tied_plain_at .later [] [.data, .data, .data, .data, .sentinel, .sentinel, .pinned] true (true, "5fbe8582c8e33cff824125d763096d7c15d6a05ac8f9bd9fd8bcc326d603db89") true
    ftraceCounts_holds (fun _ h => by cases h) (by kernel_rfl) (fun _ h => by cases h) ftraceCounts_row_tie rfl ⟨rfl, rfl⟩ (by kernel_rfl) rfl
    (fun f fn hf hfn => by
      obtain rfl : f = 5 := Option.some.inj ((show Tryd.prog.funcNamed "tracebook/tracebooklaw23.FtraceCounts" = some 5 by kernel_rfl).symm.trans hf) |>.symm
      obtain rfl : fn = Tryd.f5 := (Option.some.inj (Tryd.func5.symm.trans hfn)).symm
      exact ⟨by kernel_rfl, fun j t ht => by
        have e : Tryd.f5.params.toList = [9] := by kernel_rfl
        have hm : t ∈ ([9] : List Nat) := by rw [← e]; exact Array.mem_toList_iff.2 (Array.mem_of_getElem? ht)
        have hall : (([9] : List Nat).all fun u => !Tryd.prog.wantsStandIn u) = true := by kernel_rfl
        exact (show Tryd.prog.wantsStandIn t = false by simpa using List.all_eq_true.1 hall t hm)⟩)
    (by kernel_rfl)
#print axioms ftraceCounts_card
end Go.Proofs.YtoojafbicmdclaaDoor
