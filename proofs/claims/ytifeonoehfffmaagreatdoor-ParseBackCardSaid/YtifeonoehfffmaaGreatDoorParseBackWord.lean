/- ParseBack: on every input the law's function returns true, and the input reads as it did. Conditions: the listed package-level variables hold what the program's text lays (the card ties them). -/
import Derived.SevenTiedAt
import Derived.Test.YtifeonoehfffmaaGreatDoorCards
import Derived.Test.YtifeonoehfffmaaGreatDoorTie
import Derived.Test.YtifeonoehfffmaaGreatDoorQ6
namespace Go.Proofs.YtifeonoehfffmaaGreatDoor
open Go.Ab Go.Tb
abbrev parseBackGs : List Nat := [25, 9, 23, 55, 49, 37, 31, 34, 32, 3, 35, 50, 88, 51, 52, 106, 53, 92, 4]
theorem parseBack_own : ownKnob Tryz.prog.godebug = none := by kernel_rfl
theorem parseBack_laidOut : laidOutB Tryz.prog = true := by kernel_rfl
set_option maxRecDepth 100000 in
theorem parseBack_lifted (hd : ∀ xs, ConfA tab [25] xs → Does Tryz.prog 5 xs (.d (.v (.bool true))) 0) (os : Os) (started : os.Started) (H : Type) (enc : TypeId × Value → H) :
    ReturnsInHanded {} Tryz.checked os 5 .any (fun w args => (Rows.parseBackSpec.pre enc Tryz.prog Tryz.f5 Rows.parseBackRow.domain false w args ∧ laidMet Tryz.prog Rows.parseBackRow.laid w) ∧ sizedMet enc Tryz.prog Tryz.f5 (OpenSpec.ofChange Rows.parseBackSpec) false w args) (Rows.parseBackSpec.post enc Tryz.prog Tryz.f5 false true false false) := by
  refine returnsInHanded_of_laid (C := Tryz.checked) (X := fun w _ => laidMet Tryz.prog Rows.parseBackRow.laid w) (fun _ _ _ hh h => h.of_heap hh) parseBack_own started (by kernel_rfl) Tryz.func5
    (witness_laid (enc := enc) (C := Tryz.checked) (laid := Rows.parseBackRow.laid) false #[.agg #[.string ⟨#[]⟩, .slice none 0 0]] 8 (by kernel_rfl) (by kernel_rfl) (by kernel_rfl) (by kernel_rfl) (by kernel_rfl) (by kernel_rfl) (by kernel_rfl)) ?_
  intro W base args ds gs before hval hW hshape hL
  refine law_contract tab (gs := parseBackGs) (tb := 4) (by kernel_rfl) ?_ parseBack_laidOut ?_ (by kernel_rfl) Tryz.underlying4 rfl ?_ ?_ W ⟨hshape, lmet W hL⟩ base args ds gs before hval hW
  · intro t ht
    have e : Tryz.f5.params.toList = [25] := by kernel_rfl
    rw [e] at ht
    have hall : ([25] : List Nat).all (fun t => parseBackGs.contains t) = true := by decide
    have := List.all_eq_true.1 hall t ht
    simpa using this
  · intro t ht
    have e : Tryz.f5.params.toList = [25] := by kernel_rfl
    rw [e] at ht
    have hall : ([25] : List Nat).all (fun t => Tryz.prog.readableRec t && decide (t < Tryz.prog.types.size)) = true := by kernel_rfl
    have := List.all_eq_true.1 hall t ht
    simpa using this
  · intro ds hlen
    have e : Tryz.f5.params.size = 1 := by kernel_rfl
    rw [e] at hlen
    match ds, hlen with
    | [d1], _ => rfl
  · intro xs h
    have e : Tryz.f5.params.toList = [25] := by kernel_rfl
    rw [e] at h
    exact hd xs h

theorem parseBack_of (hd : ∀ xs, ConfA tab [25] xs → Does Tryz.prog 5 xs (.d (.v (.bool true))) 0) : Rows.ParseBackSaid :=
  OpenClaim.holds_of_wide 5 Tryz.f5 rfl rfl rfl rfl rfl rfl rfl ⟨rfl, rfl, rfl, rfl, rfl⟩ rfl rfl rfl rfl rfl (by kernel_rfl) Tryz.func5 (by kernel_rfl)
    (of_decide_eq_true (by kernel_rfl)) (by unfold Func.isWrapper; first | (rw [if_pos (by decide +kernel)]; kernel_rfl) | (rw [if_neg (by decide +kernel)]; exact ⟨rfl, rfl⟩))
    (fun os started H enc _ => parseBack_lifted hd os started H enc)

theorem parseBack_data : ∀ xs, ConfA tab [25] xs → Does Tryz.prog 5 xs (.d (.v (.bool true))) 0 := by
  intro xs h
  obtain ⟨l0, r0, rfl, c0, h⟩ := h.inv
  have := h.inv0
  subst this
  obtain ⟨x0, rfl⟩ := conf_query c0 rfl rfl rfl rfl rfl rfl rfl rfl rfl rfl rfl rfl rfl rfl rfl rfl rfl rfl rfl
  exact lqback_fn x0

theorem parseBack_holds : Rows.ParseBackSaid := parseBack_of parseBack_data
theorem parseBack_card : Rows.ParseBackCardSaid :=
  Claim7.holds_tied_plain_at .later [] [.data, .data, .data, .sentinel, .sentinel] true (true, "c6d0185c683ac86ccda9b5ee711391df344f73109ff9de6cb6b00af8de8986aa") true
    parseBack_holds (fun _ h => by cases h) (by kernel_rfl) (fun _ h => by cases h) parseBack_row_tie rfl ⟨rfl, rfl⟩ (by kernel_rfl) rfl
    (fun f fn hf hfn => by
      obtain rfl : f = 5 := Option.some.inj ((show Tryz.prog.funcNamed "tracebook/tracebooklaw37.ParseBack" = some 5 by kernel_rfl).symm.trans hf) |>.symm
      obtain rfl : fn = Tryz.f5 := (Option.some.inj (Tryz.func5.symm.trans hfn)).symm
      exact ⟨by kernel_rfl, fun j t ht => by
        have e : Tryz.f5.params.toList = [25] := by kernel_rfl
        have hm : t ∈ ([25] : List Nat) := by rw [← e]; exact Array.mem_toList_iff.2 (Array.mem_of_getElem? ht)
        have hall : (([25] : List Nat).all fun u => !Tryz.prog.wantsStandIn u) = true := by kernel_rfl
        exact (show Tryz.prog.wantsStandIn t = false by simpa using List.all_eq_true.1 hall t hm)⟩)
    (by kernel_rfl)
#print axioms parseBack_card
end Go.Proofs.YtifeonoehfffmaaGreatDoor
