/- FtraceImports: on every input the law's function returns true, and the input reads as it did. Conditions: the listed package-level variables hold what the program's text lays (the card ties them). -/
import Derived.SevenTiedAt
import Derived.Test.YtoojafbicmdclaaGreatDoorCards
import Derived.Test.YtoojafbicmdclaaGreatDoorTie
import Derived.Test.YtoojafbicmdclaaGreatDoorQ6
namespace Go.Proofs.YtoojafbicmdclaaGreatDoor
open Go.Ab Go.Tb
abbrev iX : List Nat := [9]
theorem lx : ownKnob Tryz.prog.godebug = none := by kernel_rfl
theorem jA : laidOutB Tryz.prog = true := by kernel_rfl
set_option maxRecDepth 100000 in
theorem jJ (hd : ∀ xs, e6 aa [9] xs → ax Tryz.prog 3 xs (.d (.v (.bool true))) 0) (os : Os) (started : os.Started) (H : Type) (enc : TypeId × Value → H) :
    ReturnsInHanded {} Tryz.checked os 3 .any (fun w args => (Rows.ftraceImportsSpec.pre enc Tryz.prog Tryz.f3 Rows.ftraceImportsRow.domain false w args ∧ laidMet Tryz.prog Rows.ftraceImportsRow.laid w) ∧ sizedMet enc Tryz.prog Tryz.f3 (OpenSpec.ofChange Rows.ftraceImportsSpec) false w args) (Rows.ftraceImportsSpec.post enc Tryz.prog Tryz.f3 false true false false) := by
  refine iO (C := Tryz.checked) (X := fun w _ => laidMet Tryz.prog Rows.ftraceImportsRow.laid w) (fun _ _ _ hh h => h.of_heap hh) lx started (by kernel_rfl) Tryz.func3
    (pb (enc := enc) (C := Tryz.checked) (laid := Rows.ftraceImportsRow.laid) false #[.string ⟨#[]⟩] 8 (by kernel_rfl) (by kernel_rfl) (by kernel_rfl) (by kernel_rfl) (by kernel_rfl) (by kernel_rfl) (by kernel_rfl)) ?_
  intro W base args ds gs before hval hW hshape hL
  refine pS aa (gs := iX) (tb := 4) (by kernel_rfl) ?_ jA ?_ (by kernel_rfl) Tryz.underlying4 rfl ?_ ?_ W ⟨hshape, zo W hL⟩ base args ds gs before hval hW
  · intro t ht
    have e : Tryz.f3.params.toList = [9] := by kernel_rfl
    rw [e] at ht
    have hall : ([9] : List Nat).all (fun t => iX.contains t) = true := by decide
    have := List.all_eq_true.1 hall t ht
    simpa using this
  · intro t ht
    have e : Tryz.f3.params.toList = [9] := by kernel_rfl
    rw [e] at ht
    have hall : ([9] : List Nat).all (fun t => Tryz.prog.readableRec t && decide (t < Tryz.prog.types.size)) = true := by kernel_rfl
    have := List.all_eq_true.1 hall t ht
    simpa using this
  · intro ds hlen
    have e : Tryz.f3.params.size = 1 := by kernel_rfl
    rw [e] at hlen
    match ds, hlen with
    | [d1], _ => rfl
  · intro xs h
    have e : Tryz.f3.params.toList = [9] := by kernel_rfl
    rw [e] at h
    exact hd xs h

theorem mf (hd : ∀ xs, e6 aa [9] xs → ax Tryz.prog 3 xs (.d (.v (.bool true))) 0) : Rows.FtraceImportsSaid :=
  OpenClaim.holds_of_wide 3 Tryz.f3 rfl rfl rfl rfl rfl rfl rfl ⟨rfl, rfl, rfl, rfl, rfl⟩ rfl rfl rfl rfl rfl (by kernel_rfl) Tryz.func3 (by kernel_rfl)
    (of_decide_eq_true (by kernel_rfl)) (by unfold Func.isWrapper; first | (rw [if_pos (by decide +kernel)]; kernel_rfl) | (rw [if_neg (by decide +kernel)]; exact ⟨rfl, rfl⟩))
    (fun os started H enc _ => jJ hd os started H enc)

theorem kB : ∀ xs, e6 aa [9] xs → ax Tryz.prog 3 xs (.d (.v (.bool true))) 0 := by
  intro xs h
  obtain ⟨l0, r0, rfl, c0, h⟩ := h.inv
  have := h.zh
  subst this
  obtain ⟨x0, rfl⟩ := uZ c0 rfl
  exact qC x0

theorem kq : Rows.FtraceImportsSaid := mf kB
theorem ftraceImports_card : Rows.FtraceImportsCardSaid :=
  Claim7.holds_tied_plain_at .later [] [.data, .data, .data, .data, .sentinel, .sentinel, .pinned] true (true, "bae348a12fa50489a233a857090f986ece97f2000fa7f0e9fb101ca54ee51be0") true
    kq (fun _ h => by cases h) (by kernel_rfl) (fun _ h => by cases h) ftraceImports_row_tie rfl ⟨rfl, rfl⟩ (by kernel_rfl) rfl
    (fun f fn hf hfn => by
      obtain rfl : f = 3 := Option.some.inj ((show Tryz.prog.funcNamed "tracebook/tracebooklaw23.FtraceImports" = some 3 by kernel_rfl).symm.trans hf) |>.symm
      obtain rfl : fn = Tryz.f3 := (Option.some.inj (Tryz.func3.symm.trans hfn)).symm
      exact ⟨by kernel_rfl, fun j t ht => by
        have e : Tryz.f3.params.toList = [9] := by kernel_rfl
        have hm : t ∈ ([9] : List Nat) := by rw [← e]; exact Array.mem_toList_iff.2 (Array.mem_of_getElem? ht)
        have hall : (([9] : List Nat).all fun u => !Tryz.prog.wantsStandIn u) = true := by kernel_rfl
        exact (show Tryz.prog.wantsStandIn t = false by simpa using List.all_eq_true.1 hall t hm)⟩)
    (by kernel_rfl)
#print axioms ftraceImports_card
end Go.Proofs.YtoojafbicmdclaaGreatDoor
