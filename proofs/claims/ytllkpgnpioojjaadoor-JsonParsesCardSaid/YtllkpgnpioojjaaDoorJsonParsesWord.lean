/- JsonParses: on every input the law's function returns true, and the input reads as it did. Conditions: the listed package-level variables hold what the program's text lays (the card ties them). -/
import Derived.SevenTiedAt
import Derived.Test.YtllkpgnpioojjaaDoorCards
import Derived.Test.YtllkpgnpioojjaaDoorTie
import Derived.Test.YtllkpgnpioojjaaDoorQ6
namespace Go.Proofs.YtllkpgnpioojjaaDoor
open Go.Ab Go.Tb
abbrev jsonParsesGs : List Nat := [9]
theorem jsonParses_own : ownKnob Tryd.prog.godebug = none := by kernel_rfl
theorem jsonParses_laidOut : laidOutB Tryd.prog = true := by kernel_rfl
set_option maxRecDepth 100000 in
theorem jsonParses_lifted (hd : ∀ xs, ConfA tab [9] xs → Does Tryd.prog 4 xs (.d (.v (.bool true))) 0) (os : Os) (started : os.Started) (H : Type) (enc : TypeId × Value → H) :
    ReturnsInHanded {} Tryd.checked os 4 .any (fun w args => (Rows.jsonParsesSpec.pre enc Tryd.prog Tryd.f4 Rows.jsonParsesRow.domain false w args ∧ laidMet Tryd.prog Rows.jsonParsesRow.laid w) ∧ sizedMet enc Tryd.prog Tryd.f4 (OpenSpec.ofChange Rows.jsonParsesSpec) false w args) (Rows.jsonParsesSpec.post enc Tryd.prog Tryd.f4 false true false false) := by
  refine returnsInHanded_of_laid (C := Tryd.checked) (X := fun w _ => laidMet Tryd.prog Rows.jsonParsesRow.laid w) (fun _ _ _ hh h => h.of_heap hh) jsonParses_own started (by kernel_rfl) Tryd.func4
    (witness_laid (enc := enc) (C := Tryd.checked) (laid := Rows.jsonParsesRow.laid) false #[.string ⟨#[]⟩] 8 (by kernel_rfl) (by kernel_rfl) (by kernel_rfl) (by kernel_rfl) (by kernel_rfl) (by kernel_rfl) (by kernel_rfl)) ?_
  intro W base args ds gs before hval hW hshape hL
  refine law_contract tab (gs := jsonParsesGs) (tb := 4) (by kernel_rfl) ?_ jsonParses_laidOut ?_ (by kernel_rfl) Tryd.underlying4 rfl ?_ ?_ W ⟨hshape, lmet W hL⟩ base args ds gs before hval hW
  · intro t ht
    have e : Tryd.f4.params.toList = [9] := by kernel_rfl
    rw [e] at ht
    have hall : ([9] : List Nat).all (fun t => jsonParsesGs.contains t) = true := by decide
    have := List.all_eq_true.1 hall t ht
    simpa using this
  · intro t ht
    have e : Tryd.f4.params.toList = [9] := by kernel_rfl
    rw [e] at ht
    have hall : ([9] : List Nat).all (fun t => Tryd.prog.readableRec t && decide (t < Tryd.prog.types.size)) = true := by kernel_rfl
    have := List.all_eq_true.1 hall t ht
    simpa using this
  · intro ds hlen
    have e : Tryd.f4.params.size = 1 := by kernel_rfl
    rw [e] at hlen
    match ds, hlen with
    | [d1], _ => rfl
  · intro xs h
    have e : Tryd.f4.params.toList = [9] := by kernel_rfl
    rw [e] at h
    exact hd xs h

theorem jsonParses_of (hd : ∀ xs, ConfA tab [9] xs → Does Tryd.prog 4 xs (.d (.v (.bool true))) 0) : Rows.JsonParsesSaid :=
  OpenClaim.holds_of_wide 4 Tryd.f4 rfl rfl rfl rfl rfl rfl rfl ⟨rfl, rfl, rfl, rfl, rfl⟩ rfl rfl rfl rfl rfl (by kernel_rfl) Tryd.func4 (by kernel_rfl)
    (of_decide_eq_true (by kernel_rfl)) (by unfold Func.isWrapper; first | (rw [if_pos (by decide +kernel)]; kernel_rfl) | (rw [if_neg (by decide +kernel)]; exact ⟨rfl, rfl⟩))
    (fun os started H enc _ => jsonParses_lifted hd os started H enc)

theorem jsonParses_data : ∀ xs, ConfA tab [9] xs → Does Tryd.prog 4 xs (.d (.v (.bool true))) 0 := by
  intro xs h
  obtain ⟨l0, r0, rfl, c0, h⟩ := h.inv
  have := h.inv0
  subst this
  obtain ⟨x0, rfl⟩ := conf_str c0 rfl
  exact jparses_fn x0

theorem jsonParses_holds : Rows.JsonParsesSaid := jsonParses_of jsonParses_data
theorem jsonParses_card : Rows.JsonParsesCardSaid :=
  Claim7.holds_tied_plain_at .later [] [.data, .data, .data, .sentinel, .sentinel] true (true, "70102c2baeb764cf019b9cdf4f23e1084dbd052a5d99e3dc136524448dec7233") true
    jsonParses_holds (fun _ h => by cases h) (by kernel_rfl) (fun _ h => by cases h) jsonParses_row_tie rfl ⟨rfl, rfl⟩ (by kernel_rfl) rfl
    (fun f fn hf hfn => by
      obtain rfl : f = 4 := Option.some.inj ((show Tryd.prog.funcNamed "tracebook/tracebooklaw21.JsonParses" = some 4 by kernel_rfl).symm.trans hf) |>.symm
      obtain rfl : fn = Tryd.f4 := (Option.some.inj (Tryd.func4.symm.trans hfn)).symm
      exact ⟨by kernel_rfl, fun j t ht => by
        have e : Tryd.f4.params.toList = [9] := by kernel_rfl
        have hm : t ∈ ([9] : List Nat) := by rw [← e]; exact Array.mem_toList_iff.2 (Array.mem_of_getElem? ht)
        have hall : (([9] : List Nat).all fun u => !Tryd.prog.wantsStandIn u) = true := by kernel_rfl
        exact (show Tryd.prog.wantsStandIn t = false by simpa using List.all_eq_true.1 hall t hm)⟩)
    (by kernel_rfl)
#print axioms jsonParses_card
end Go.Proofs.YtllkpgnpioojjaaDoor
