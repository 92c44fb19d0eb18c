/- JsonNests: on every input the law's function returns true, and the input reads as it did. Conditions: the listed package-level variables hold what the program's text lays (the card ties them). -/
import Derived.SevenTiedAt
import Derived.Test.YtllkpgnpioojjaaDoorCards
import Derived.Test.YtllkpgnpioojjaaDoorTie
import Derived.Test.YtllkpgnpioojjaaDoorQ5
namespace Go.Proofs.YtllkpgnpioojjaaDoor
open Go.Ab Go.Tb
abbrev jsonNestsGs : List Nat := [5]
theorem jsonNests_own : ownKnob Tryd.prog.godebug = none := by kernel_rfl
theorem jsonNests_laidOut : laidOutB Tryd.prog = true := by kernel_rfl
set_option maxRecDepth 100000 in
theorem jsonNests_lifted (hd : ∀ xs, ConfA tab [5] xs → Does Tryd.prog 8 xs (.d (.v (.bool true))) 0) (os : Os) (started : os.Started) (H : Type) (enc : TypeId × Value → H) :
    ReturnsInHanded {} Tryd.checked os 8 .any (fun w args => (Rows.jsonNestsSpec.pre enc Tryd.prog Tryd.f8 Rows.jsonNestsRow.domain false w args ∧ laidMet Tryd.prog Rows.jsonNestsRow.laid w) ∧ sizedMet enc Tryd.prog Tryd.f8 (OpenSpec.ofChange Rows.jsonNestsSpec) false w args) (Rows.jsonNestsSpec.post enc Tryd.prog Tryd.f8 false true false false) := by
  refine returnsInHanded_of_laid (C := Tryd.checked) (X := fun w _ => laidMet Tryd.prog Rows.jsonNestsRow.laid w) (fun _ _ _ hh h => h.of_heap hh) jsonNests_own started (by kernel_rfl) Tryd.func8
    (witness_laid (enc := enc) (C := Tryd.checked) (laid := Rows.jsonNestsRow.laid) false #[.int .u8 0] 8 (by kernel_rfl) (by kernel_rfl) (by kernel_rfl) (by kernel_rfl) (by kernel_rfl) (by kernel_rfl) (by kernel_rfl)) ?_
  intro W base args ds gs before hval hW hshape hL
  refine law_contract tab (gs := jsonNestsGs) (tb := 4) (by kernel_rfl) ?_ jsonNests_laidOut ?_ (by kernel_rfl) Tryd.underlying4 rfl ?_ ?_ W ⟨hshape, lmet W hL⟩ base args ds gs before hval hW
  · intro t ht
    have e : Tryd.f8.params.toList = [5] := by kernel_rfl
    rw [e] at ht
    have hall : ([5] : List Nat).all (fun t => jsonNestsGs.contains t) = true := by decide
    have := List.all_eq_true.1 hall t ht
    simpa using this
  · intro t ht
    have e : Tryd.f8.params.toList = [5] := by kernel_rfl
    rw [e] at ht
    have hall : ([5] : List Nat).all (fun t => Tryd.prog.readableRec t && decide (t < Tryd.prog.types.size)) = true := by kernel_rfl
    have := List.all_eq_true.1 hall t ht
    simpa using this
  · intro ds hlen
    have e : Tryd.f8.params.size = 1 := by kernel_rfl
    rw [e] at hlen
    match ds, hlen with
    | [d1], _ => rfl
  · intro xs h
    have e : Tryd.f8.params.toList = [5] := by kernel_rfl
    rw [e] at h
    exact hd xs h

theorem jsonNests_of (hd : ∀ xs, ConfA tab [5] xs → Does Tryd.prog 8 xs (.d (.v (.bool true))) 0) : Rows.JsonNestsSaid :=
  OpenClaim.holds_of_wide 8 Tryd.f8 rfl rfl rfl rfl rfl rfl rfl ⟨rfl, rfl, rfl, rfl, rfl⟩ rfl rfl rfl rfl rfl (by kernel_rfl) Tryd.func8 (by kernel_rfl)
    (of_decide_eq_true (by kernel_rfl)) (by unfold Func.isWrapper; first | (rw [if_pos (by decide +kernel)]; kernel_rfl) | (rw [if_neg (by decide +kernel)]; exact ⟨rfl, rfl⟩))
    (fun os started H enc _ => jsonNests_lifted hd os started H enc)

theorem jsonNests_data : ∀ xs, ConfA tab [5] xs → Does Tryd.prog 8 xs (.d (.v (.bool true))) 0 := by
  intro xs h
  obtain ⟨l0, r0, rfl, c0, h⟩ := h.inv
  have := h.inv0
  subst this
  obtain ⟨x0, rfl, hu0⟩ := Conf.toInt c0 rfl
  exact jnests_fn x0 hu0

theorem jsonNests_holds : Rows.JsonNestsSaid := jsonNests_of jsonNests_data
theorem jsonNests_card : Rows.JsonNestsCardSaid :=
  Claim7.holds_tied_plain_at .later [] [.data, .data, .data, .sentinel, .sentinel] true (true, "70102c2baeb764cf019b9cdf4f23e1084dbd052a5d99e3dc136524448dec7233") true
    jsonNests_holds (fun _ h => by cases h) (by kernel_rfl) (fun _ h => by cases h) jsonNests_row_tie rfl ⟨rfl, rfl⟩ (by kernel_rfl) rfl
    (fun f fn hf hfn => by
      obtain rfl : f = 8 := Option.some.inj ((show Tryd.prog.funcNamed "tracebook/tracebooklaw21.JsonNests" = some 8 by kernel_rfl).symm.trans hf) |>.symm
      obtain rfl : fn = Tryd.f8 := (Option.some.inj (Tryd.func8.symm.trans hfn)).symm
      exact ⟨by kernel_rfl, fun j t ht => by
        have e : Tryd.f8.params.toList = [5] := by kernel_rfl
        have hm : t ∈ ([5] : List Nat) := by rw [← e]; exact Array.mem_toList_iff.2 (Array.mem_of_getElem? ht)
        have hall : (([5] : List Nat).all fun u => !Tryd.prog.wantsStandIn u) = true := by kernel_rfl
        exact (show Tryd.prog.wantsStandIn t = false by simpa using List.all_eq_true.1 hall t hm)⟩)
    (by kernel_rfl)
#print axioms jsonNests_card
end Go.Proofs.YtllkpgnpioojjaaDoor
