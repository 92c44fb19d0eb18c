/- JsonBack: on every input the law's function returns true, and the input reads as it did. Conditions: the listed package-level variables hold what the program's text lays (the card ties them). -/
import Derived.SevenTiedAt
import Derived.Test.YtllkpgnpioojjaaDoorCards
import Derived.Test.YtllkpgnpioojjaaDoorTie
import Derived.Test.YtllkpgnpioojjaaDoorQ5
namespace Go.Proofs.YtllkpgnpioojjaaDoor
open Go.Ab Go.Tb
abbrev jsonBackGs : List Nat := [26, 22, 3, 9, 23, 24, 5]
theorem jsonBack_own : ownKnob Tryd.prog.godebug = none := by kernel_rfl
theorem jsonBack_laidOut : laidOutB Tryd.prog = true := by kernel_rfl
set_option maxRecDepth 100000 in
theorem jsonBack_lifted (hd : ∀ xs, ConfA tab [26, 5] xs → Does Tryd.prog 5 xs (.d (.v (.bool true))) 0) (os : Os) (started : os.Started) (H : Type) (enc : TypeId × Value → H) :
    ReturnsInHanded {} Tryd.checked os 5 .any (fun w args => (Rows.jsonBackSpec.pre enc Tryd.prog Tryd.f5 Rows.jsonBackRow.domain false w args ∧ laidMet Tryd.prog Rows.jsonBackRow.laid w) ∧ sizedMet enc Tryd.prog Tryd.f5 (OpenSpec.ofChange Rows.jsonBackSpec) false w args) (Rows.jsonBackSpec.post enc Tryd.prog Tryd.f5 false true false false) := by
  refine returnsInHanded_of_laid (C := Tryd.checked) (X := fun w _ => laidMet Tryd.prog Rows.jsonBackRow.laid w) (fun _ _ _ hh h => h.of_heap hh) jsonBack_own started (by kernel_rfl) Tryd.func5
    (witness_laid (enc := enc) (C := Tryd.checked) (laid := Rows.jsonBackRow.laid) false #[.agg #[.int .i64 0, .int .i64 0, .string ⟨#[]⟩, .slice none 0 0, .slice none 0 0], .int .u8 0] 8 (by kernel_rfl) (by kernel_rfl) (by kernel_rfl) (by kernel_rfl) (by kernel_rfl) (by kernel_rfl) (by kernel_rfl)) ?_
  intro W base args ds gs before hval hW hshape hL
  refine law_contract tab (gs := jsonBackGs) (tb := 4) (by kernel_rfl) ?_ jsonBack_laidOut ?_ (by kernel_rfl) Tryd.underlying4 rfl ?_ ?_ W ⟨hshape, lmet W hL⟩ base args ds gs before hval hW
  · intro t ht
    have e : Tryd.f5.params.toList = [26, 5] := by kernel_rfl
    rw [e] at ht
    have hall : ([26, 5] : List Nat).all (fun t => jsonBackGs.contains t) = true := by decide
    have := List.all_eq_true.1 hall t ht
    simpa using this
  · intro t ht
    have e : Tryd.f5.params.toList = [26, 5] := by kernel_rfl
    rw [e] at ht
    have hall : ([26, 5] : List Nat).all (fun t => Tryd.prog.readableRec t && decide (t < Tryd.prog.types.size)) = true := by kernel_rfl
    have := List.all_eq_true.1 hall t ht
    simpa using this
  · intro ds hlen
    have e : Tryd.f5.params.size = 2 := by kernel_rfl
    rw [e] at hlen
    match ds, hlen with
    | [d1, d2], _ => rfl
  · intro xs h
    have e : Tryd.f5.params.toList = [26, 5] := by kernel_rfl
    rw [e] at h
    exact hd xs h

theorem jsonBack_of (hd : ∀ xs, ConfA tab [26, 5] xs → Does Tryd.prog 5 xs (.d (.v (.bool true))) 0) : Rows.JsonBackSaid :=
  OpenClaim.holds_of_wide 5 Tryd.f5 rfl rfl rfl rfl rfl rfl rfl ⟨rfl, rfl, rfl, rfl, rfl⟩ rfl rfl rfl rfl rfl (by kernel_rfl) Tryd.func5 (by kernel_rfl)
    (of_decide_eq_true (by kernel_rfl)) (by unfold Func.isWrapper; first | (rw [if_pos (by decide +kernel)]; kernel_rfl) | (rw [if_neg (by decide +kernel)]; exact ⟨rfl, rfl⟩))
    (fun os started H enc _ => jsonBack_lifted hd os started H enc)

theorem jsonBack_data : ∀ xs, ConfA tab [26, 5] xs → Does Tryd.prog 5 xs (.d (.v (.bool true))) 0 := by
  intro xs h
  obtain ⟨l0, r0, rfl, c0, h⟩ := h.inv
  obtain ⟨l1, r1, rfl, c1, h⟩ := h.inv
  have := h.inv0
  subst this
  obtain ⟨x0, rfl, hf0⟩ := conf_jvF rfl rfl rfl rfl rfl rfl _ c0
  obtain ⟨x1, rfl, hu1⟩ := Conf.toInt c1 rfl
  exact jback_fn x0 x1 hf0 hu1

theorem jsonBack_holds : Rows.JsonBackSaid := jsonBack_of jsonBack_data
theorem jsonBack_card : Rows.JsonBackCardSaid :=
  Claim7.holds_tied_plain_at .later [] [.data, .data, .data, .sentinel, .sentinel] true (true, "70102c2baeb764cf019b9cdf4f23e1084dbd052a5d99e3dc136524448dec7233") true
    jsonBack_holds (fun _ h => by cases h) (by kernel_rfl) (fun _ h => by cases h) jsonBack_row_tie rfl ⟨rfl, rfl⟩ (by kernel_rfl) rfl
    (fun f fn hf hfn => by
      obtain rfl : f = 5 := Option.some.inj ((show Tryd.prog.funcNamed "tracebook/tracebooklaw21.JsonBack" = some 5 by kernel_rfl).symm.trans hf) |>.symm
      obtain rfl : fn = Tryd.f5 := (Option.some.inj (Tryd.func5.symm.trans hfn)).symm
      exact ⟨by kernel_rfl, fun j t ht => by
        have e : Tryd.f5.params.toList = [26, 5] := by kernel_rfl
        have hm : t ∈ ([26, 5] : List Nat) := by rw [← e]; exact Array.mem_toList_iff.2 (Array.mem_of_getElem? ht)
        have hall : (([26, 5] : List Nat).all fun u => !Tryd.prog.wantsStandIn u) = true := by kernel_rfl
        exact (show Tryd.prog.wantsStandIn t = false by simpa using List.all_eq_true.1 hall t hm)⟩)
    (by kernel_rfl)
#print axioms jsonBack_card
end Go.Proofs.YtllkpgnpioojjaaDoor
