/- HeapdumpChecks: on every input the law's function returns true, and the input reads as it did. Conditions: the listed package-level variables hold what the program's text lays (the card ties them). -/
import Derived.SevenTiedAt
import Derived.Test.YtpkfchdnpdcenaaDoorCards
import Derived.Test.YtpkfchdnpdcenaaDoorTie
import Derived.Test.YtpkfchdnpdcenaaDoorQ4
namespace Go.Proofs.YtpkfchdnpdcenaaDoor
open Go.Ab Go.Tb
abbrev heapdumpChecksGs : List Nat := [25, 22, 40, 3, 9, 23]
theorem heapdumpChecks_own : ownKnob Tryd.prog.godebug = none := by kernel_rfl
theorem heapdumpChecks_laidOut : laidOutB Tryd.prog = true := by kernel_rfl
set_option maxRecDepth 100000 in
theorem heapdumpChecks_lifted (hd : ∀ xs, ConfA tab [25, 3] xs → Does Tryd.prog 3 xs (.d (.v (.bool true))) 0) (os : Os) (started : os.Started) (H : Type) (enc : TypeId × Value → H) :
    ReturnsInHanded {} Tryd.checked os 3 .any (fun w args => (Rows.heapdumpChecksSpec.pre enc Tryd.prog Tryd.f3 Rows.heapdumpChecksRow.domain false w args ∧ laidMet Tryd.prog Rows.heapdumpChecksRow.laid w) ∧ sizedMet enc Tryd.prog Tryd.f3 (OpenSpec.ofChange Rows.heapdumpChecksSpec) false w args) (Rows.heapdumpChecksSpec.post enc Tryd.prog Tryd.f3 false true false false) := by
  refine returnsInHanded_of_laid (C := Tryd.checked) (X := fun w _ => laidMet Tryd.prog Rows.heapdumpChecksRow.laid w) (fun _ _ _ hh h => h.of_heap hh) heapdumpChecks_own started (by kernel_rfl) Tryd.func3
    (witness_laid (enc := enc) (C := Tryd.checked) (laid := Rows.heapdumpChecksRow.laid) false #[.agg #[.slice none 0 0, .slice none 0 0], .int .i64 0] 8 (by kernel_rfl) (by kernel_rfl) (by kernel_rfl) (by kernel_rfl) (by kernel_rfl) (by kernel_rfl) (by kernel_rfl)) ?_
  intro W base args ds gs before hval hW hshape hL
  refine law_contract tab (gs := heapdumpChecksGs) (tb := 4) (by kernel_rfl) ?_ heapdumpChecks_laidOut ?_ (by kernel_rfl) Tryd.underlying4 rfl ?_ ?_ W ⟨hshape, lmet W hL⟩ base args ds gs before hval hW
  · intro t ht
    have e : Tryd.f3.params.toList = [25, 3] := by kernel_rfl
    rw [e] at ht
    have hall : ([25, 3] : List Nat).all (fun t => heapdumpChecksGs.contains t) = true := by decide
    have := List.all_eq_true.1 hall t ht
    simpa using this
  · intro t ht
    have e : Tryd.f3.params.toList = [25, 3] := by kernel_rfl
    rw [e] at ht
    have hall : ([25, 3] : List Nat).all (fun t => Tryd.prog.readableRec t && decide (t < Tryd.prog.types.size)) = true := by kernel_rfl
    have := List.all_eq_true.1 hall t ht
    simpa using this
  · intro ds hlen
    have e : Tryd.f3.params.size = 2 := by kernel_rfl
    rw [e] at hlen
    match ds, hlen with
    | [d1, d2], _ => rfl
  · intro xs h
    have e : Tryd.f3.params.toList = [25, 3] := by kernel_rfl
    rw [e] at h
    exact hd xs h

theorem heapdumpChecks_of (hd : ∀ xs, ConfA tab [25, 3] xs → Does Tryd.prog 3 xs (.d (.v (.bool true))) 0) : Rows.HeapdumpChecksSaid :=
  OpenClaim.holds_of_wide 3 Tryd.f3 rfl rfl rfl rfl rfl rfl rfl ⟨rfl, rfl, rfl, rfl, rfl⟩ rfl rfl rfl rfl rfl (by kernel_rfl) Tryd.func3 (by kernel_rfl)
    (of_decide_eq_true (by kernel_rfl)) (by unfold Func.isWrapper; first | (rw [if_pos (by decide +kernel)]; kernel_rfl) | (rw [if_neg (by decide +kernel)]; exact ⟨rfl, rfl⟩))
    (fun os started H enc _ => heapdumpChecks_lifted hd os started H enc)

theorem heapdumpChecks_data : ∀ xs, ConfA tab [25, 3] xs → Does Tryd.prog 3 xs (.d (.v (.bool true))) 0 := by
  intro xs h
  obtain ⟨l0, r0, rfl, c0, h⟩ := h.inv
  obtain ⟨l1, r1, rfl, c1, h⟩ := h.inv
  have := h.inv0
  subst this
  obtain ⟨x0, rfl⟩ := conf_heap c0 rfl rfl rfl rfl rfl rfl
  obtain ⟨x1, rfl⟩ := conf_int c1 rfl
  exact hchecks_fn x0 x1

theorem heapdumpChecks_holds : Rows.HeapdumpChecksSaid := heapdumpChecks_of heapdumpChecks_data
theorem heapdumpChecks_card : Rows.HeapdumpChecksCardSaid :=
  Claim7.holds_tied_plain_at .later [] [.data, .data, .data, .data, .sentinel, .sentinel, .pinned] true (true, "a610cfc97d8b7f117b6a8379095bc196aa4569fca42b131cf860153c0c8ee175") true
    heapdumpChecks_holds (fun _ h => by cases h) (by kernel_rfl) (fun _ h => by cases h) heapdumpChecks_row_tie rfl ⟨rfl, rfl⟩ (by kernel_rfl) rfl
    (fun f fn hf hfn => by
      obtain rfl : f = 3 := Option.some.inj ((show Tryd.prog.funcNamed "tracebook/tracebooklaw25.HeapdumpChecks" = some 3 by kernel_rfl).symm.trans hf) |>.symm
      obtain rfl : fn = Tryd.f3 := (Option.some.inj (Tryd.func3.symm.trans hfn)).symm
      exact ⟨by kernel_rfl, fun j t ht => by
        have e : Tryd.f3.params.toList = [25, 3] := by kernel_rfl
        have hm : t ∈ ([25, 3] : List Nat) := by rw [← e]; exact Array.mem_toList_iff.2 (Array.mem_of_getElem? ht)
        have hall : (([25, 3] : List Nat).all fun u => !Tryd.prog.wantsStandIn u) = true := by kernel_rfl
        exact (show Tryd.prog.wantsStandIn t = false by simpa using List.all_eq_true.1 hall t hm)⟩)
    (by kernel_rfl)
#print axioms heapdumpChecks_card
end Go.Proofs.YtpkfchdnpdcenaaDoor
