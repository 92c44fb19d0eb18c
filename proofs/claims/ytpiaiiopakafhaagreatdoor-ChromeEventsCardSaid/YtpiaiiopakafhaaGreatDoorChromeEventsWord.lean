/- ChromeEvents: on every input the law's function returns true, and the input reads as it did. Conditions: the listed package-level variables hold what the program's text lays (the card ties them). -/
import Derived.SevenTiedAt
import Derived.Test.YtpiaiiopakafhaaGreatDoorCards
import Derived.Test.YtpiaiiopakafhaaGreatDoorTie
import Derived.Test.YtpiaiiopakafhaaGreatDoorQ6
namespace Go.Proofs.YtpiaiiopakafhaaGreatDoor
open Go.Ab Go.Tb
abbrev mz : List Nat := [46, 42, 3, 9, 43, 44]
theorem qc : ownKnob Tryz.prog.godebug = none := by kernel_rfl
theorem nf : laidOutB Tryz.prog = true := by kernel_rfl
set_option maxRecDepth 100000 in
theorem nQ (hd : ∀ xs, iq aa [46] xs → ay Tryz.prog 5 xs (.d (.v (.bool true))) 0) (os : Os) (started : os.Started) (H : Type) (enc : TypeId × Value → H) :
    ReturnsInHanded {} Tryz.checked os 5 .any (fun w args => (Rows.chromeEventsSpec.pre enc Tryz.prog Tryz.f5 Rows.chromeEventsRow.domain false w args ∧ laidMet Tryz.prog Rows.chromeEventsRow.laid w) ∧ sizedMet enc Tryz.prog Tryz.f5 (OpenSpec.ofChange Rows.chromeEventsSpec) false w args) (Rows.chromeEventsSpec.post enc Tryz.prog Tryz.f5 false true false false) := by
  refine lD (C := Tryz.checked) (X := fun w _ => laidMet Tryz.prog Rows.chromeEventsRow.laid w) (fun _ _ _ hh h => h.of_heap hh) qc started (by kernel_rfl) Tryz.func5
    (uH (enc := enc) (C := Tryz.checked) (laid := Rows.chromeEventsRow.laid) false #[.agg #[.int .i64 0, .int .i64 0, .string ⟨#[]⟩, .slice none 0 0, .slice none 0 0]] 8 (by kernel_rfl) (by kernel_rfl) (by kernel_rfl) (by kernel_rfl) (by kernel_rfl) (by kernel_rfl) (by kernel_rfl)) ?_
  intro W base args ds gs before hval hW hshape hL
  refine vN aa (gs := mz) (tb := 4) (by kernel_rfl) ?_ nf ?_ (by kernel_rfl) Tryz.underlying4 rfl ?_ ?_ W ⟨hshape, GH W hL⟩ base args ds gs before hval hW
  · intro t ht
    have e : Tryz.f5.params.toList = [46] := by kernel_rfl
    rw [e] at ht
    have hall : ([46] : List Nat).all (fun t => mz.contains t) = true := by decide
    have := List.all_eq_true.1 hall t ht
    simpa using this
  · intro t ht
    have e : Tryz.f5.params.toList = [46] := by kernel_rfl
    rw [e] at ht
    have hall : ([46] : List Nat).all (fun t => Tryz.prog.readableRec t && decide (t < Tryz.prog.types.size)) = true := by kernel_rfl
    have := List.all_eq_true.1 hall t ht
    simpa using this
  · intro ds hlen
    have e : Tryz.f5.params.size = 1 := by kernel_rfl
    rw [e] at hlen
    match ds, hlen with
    | [d1], _ => rfl
  · intro xs h
    have e : Tryz.f5.params.toList = [46] := by kernel_rfl
    rw [e] at h
    exact hd xs h

theorem qM (hd : ∀ xs, iq aa [46] xs → ay Tryz.prog 5 xs (.d (.v (.bool true))) 0) : Rows.ChromeEventsSaid :=
  OpenClaim.holds_of_wide 5 Tryz.f5 rfl rfl rfl rfl rfl rfl rfl ⟨rfl, rfl, rfl, rfl, rfl⟩ rfl rfl rfl rfl rfl (by kernel_rfl) Tryz.func5 (by kernel_rfl)
    (of_decide_eq_true (by kernel_rfl)) (by unfold Func.isWrapper; first | (rw [if_pos (by decide +kernel)]; kernel_rfl) | (rw [if_neg (by decide +kernel)]; exact ⟨rfl, rfl⟩))
    (fun os started H enc _ => nQ hd os started H enc)

theorem pD : ∀ xs, iq aa [46] xs → ay Tryz.prog 5 xs (.d (.v (.bool true))) 0 := by
  intro xs h
  obtain ⟨l0, r0, rfl, c0, h⟩ := h.inv
  have := h.GG
  subst this
  obtain ⟨x0, rfl, hf0⟩ := AZ rfl rfl rfl rfl rfl rfl _ c0
  exact wL x0 hf0

theorem nT : Rows.ChromeEventsSaid := qM pD
theorem chromeEvents_card : Rows.ChromeEventsCardSaid :=
  Claim7.holds_tied_plain_at .later [] [.data, .data, .data, .sentinel, .sentinel] true (true, "1dae4bde635f40ea12784293ed2cd6d80f558439a319b6874bc2c370dcbb9741") true
    nT (fun _ h => by cases h) (by kernel_rfl) (fun _ h => by cases h) chromeEvents_row_tie rfl ⟨rfl, rfl⟩ (by kernel_rfl) rfl
    (fun f fn hf hfn => by
      obtain rfl : f = 5 := Option.some.inj ((show Tryz.prog.funcNamed "tracebook/tracebooklaw22.ChromeEvents" = some 5 by kernel_rfl).symm.trans hf) |>.symm
      obtain rfl : fn = Tryz.f5 := (Option.some.inj (Tryz.func5.symm.trans hfn)).symm
      exact ⟨by kernel_rfl, fun j t ht => by
        have e : Tryz.f5.params.toList = [46] := by kernel_rfl
        have hm : t ∈ ([46] : List Nat) := by rw [← e]; exact Array.mem_toList_iff.2 (Array.mem_of_getElem? ht)
        have hall : (([46] : List Nat).all fun u => !Tryz.prog.wantsStandIn u) = true := by kernel_rfl
        exact (show Tryz.prog.wantsStandIn t = false by simpa using List.all_eq_true.1 hall t hm)⟩)
    (by kernel_rfl)
#print axioms chromeEvents_card
end Go.Proofs.YtpiaiiopakafhaaGreatDoor
