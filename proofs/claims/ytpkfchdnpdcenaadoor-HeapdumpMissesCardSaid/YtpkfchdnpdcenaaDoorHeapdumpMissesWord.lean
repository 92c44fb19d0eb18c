/- HeapdumpMisses: on every input the law's function returns true, and the input reads as it did. Conditions: the listed package-level variables hold what the program's text lays (the card ties them). -/
import Derived.SevenTiedAt
import Derived.Test.YtpkfchdnpdcenaaDoorCards
import Derived.Test.YtpkfchdnpdcenaaDoorTie
import Derived.Test.YtpkfchdnpdcenaaDoorQ4
namespace Go.Proofs.YtpkfchdnpdcenaaDoor
open Go.Ab Go.Tb
abbrev heapdumpMissesGs : List Nat := [25, 22, 40, 3, 9, 23, 5]
theorem heapdumpMisses_own : ownKnob Tryd.prog.godebug = none := by kernel_rfl
theorem heapdumpMisses_laidOut : laidOutB Tryd.prog = true := by kernel_rfl
set_option maxRecDepth 100000 in
theorem heapdumpMisses_lifted (hd : ∀ xs, ConfA tab [25, 3, 5] xs → Does Tryd.prog 7 xs (.d (.v (.bool true))) 0) (os : Os) (started : os.Started) (H : Type) (enc : TypeId × Value → H) :
    ReturnsInHanded {} Tryd.checked os 7 .any (fun w args => (Rows.heapdumpMissesSpec.pre enc Tryd.prog Tryd.f7 Rows.heapdumpMissesRow.domain false w args ∧ laidMet Tryd.prog Rows.heapdumpMissesRow.laid w) ∧ sizedMet enc Tryd.prog Tryd.f7 (OpenSpec.ofChange Rows.heapdumpMissesSpec) false w args) (Rows.heapdumpMissesSpec.post enc Tryd.prog Tryd.f7 false true false false) := by
  refine returnsInHanded_of_laid (C := Tryd.checked) (X := fun w _ => laidMet Tryd.prog Rows.heapdumpMissesRow.laid w) (fun _ _ _ hh h => h.of_heap hh) heapdumpMisses_own started (by kernel_rfl) Tryd.func7
    (witness_laid (enc := enc) (C := Tryd.checked) (laid := Rows.heapdumpMissesRow.laid) false #[.agg #[.slice none 0 0, .slice none 0 0], .int .i64 0, .int .u8 0] 8 (by kernel_rfl) (by kernel_rfl) (by kernel_rfl) (by kernel_rfl) (by kernel_rfl) (by kernel_rfl) (by kernel_rfl)) ?_
  intro W base args ds gs before hval hW hshape hL
  refine law_contract tab (gs := heapdumpMissesGs) (tb := 4) (by kernel_rfl) ?_ heapdumpMisses_laidOut ?_ (by kernel_rfl) Tryd.underlying4 rfl ?_ ?_ W ⟨hshape, lmet W hL⟩ base args ds gs before hval hW
  · intro t ht
    have e : Tryd.f7.params.toList = [25, 3, 5] := by kernel_rfl
    rw [e] at ht
    have hall : ([25, 3, 5] : List Nat).all (fun t => heapdumpMissesGs.contains t) = true := by decide
    have := List.all_eq_true.1 hall t ht
    simpa using this
  · intro t ht
    have e : Tryd.f7.params.toList = [25, 3, 5] := by kernel_rfl
    rw [e] at ht
    have hall : ([25, 3, 5] : List Nat).all (fun t => Tryd.prog.readableRec t && decide (t < Tryd.prog.types.size)) = true := by kernel_rfl
    have := List.all_eq_true.1 hall t ht
    simpa using this
  · intro ds hlen
    have e : Tryd.f7.params.size = 3 := by kernel_rfl
    rw [e] at hlen
    match ds, hlen with
    | [d1, d2, d3], _ => rfl
  · intro xs h
    have e : Tryd.f7.params.toList = [25, 3, 5] := by kernel_rfl
    rw [e] at h
    exact hd xs h

theorem heapdumpMisses_of (hd : ∀ xs, ConfA tab [25, 3, 5] xs → Does Tryd.prog 7 xs (.d (.v (.bool true))) 0) : Rows.HeapdumpMissesSaid :=
  OpenClaim.holds_of_wide 7 Tryd.f7 rfl rfl rfl rfl rfl rfl rfl ⟨rfl, rfl, rfl, rfl, rfl⟩ rfl rfl rfl rfl rfl (by kernel_rfl) Tryd.func7 (by kernel_rfl)
    (of_decide_eq_true (by kernel_rfl)) (by unfold Func.isWrapper; first | (rw [if_pos (by decide +kernel)]; kernel_rfl) | (rw [if_neg (by decide +kernel)]; exact ⟨rfl, rfl⟩))
    (fun os started H enc _ => heapdumpMisses_lifted hd os started H enc)

theorem heapdumpMisses_data : ∀ xs, ConfA tab [25, 3, 5] xs → Does Tryd.prog 7 xs (.d (.v (.bool true))) 0 := by
  intro xs h
  obtain ⟨l0, r0, rfl, c0, h⟩ := h.inv
  obtain ⟨l1, r1, rfl, c1, h⟩ := h.inv
  obtain ⟨l2, r2, rfl, c2, h⟩ := h.inv
  have := h.inv0
  subst this
  obtain ⟨x0, rfl⟩ := conf_heap c0 rfl rfl rfl rfl rfl rfl
  obtain ⟨x1, rfl⟩ := conf_int c1 rfl
  obtain ⟨x2, rfl, hu2⟩ := Conf.toInt c2 rfl
  exact misses_fn x0 x1 x2 hu2

theorem heapdumpMisses_holds : Rows.HeapdumpMissesSaid := heapdumpMisses_of heapdumpMisses_data
theorem heapdumpMisses_card : Rows.HeapdumpMissesCardSaid :=
  Claim7.holds_tied_plain_at .later [] [.data, .data, .data, .data, .sentinel, .sentinel, .pinned] true (true, "a610cfc97d8b7f117b6a8379095bc196aa4569fca42b131cf860153c0c8ee175") true
    heapdumpMisses_holds (fun _ h => by cases h) (by kernel_rfl) (fun _ h => by cases h) heapdumpMisses_row_tie rfl ⟨rfl, rfl⟩ (by kernel_rfl) rfl
    (fun f fn hf hfn => by
      obtain rfl : f = 7 := Option.some.inj ((show Tryd.prog.funcNamed "tracebook/tracebooklaw25.HeapdumpMisses" = some 7 by kernel_rfl).symm.trans hf) |>.symm
      obtain rfl : fn = Tryd.f7 := (Option.some.inj (Tryd.func7.symm.trans hfn)).symm
      exact ⟨by kernel_rfl, fun j t ht => by
        have e : Tryd.f7.params.toList = [25, 3, 5] := by kernel_rfl
        have hm : t ∈ ([25, 3, 5] : List Nat) := by rw [← e]; exact Array.mem_toList_iff.2 (Array.mem_of_getElem? ht)
        have hall : (([25, 3, 5] : List Nat).all fun u => !Tryd.prog.wantsStandIn u) = true := by kernel_rfl
        exact (show Tryd.prog.wantsStandIn t = false by simpa using List.all_eq_true.1 hall t hm)⟩)
    (by kernel_rfl)
#print axioms heapdumpMisses_card
end Go.Proofs.YtpkfchdnpdcenaaDoor
