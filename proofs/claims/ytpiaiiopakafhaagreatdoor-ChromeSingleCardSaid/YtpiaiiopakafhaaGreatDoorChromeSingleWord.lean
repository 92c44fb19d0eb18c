/- ChromeSingle: on every input the law's function returns true, and the input reads as it did. Conditions: the listed package-level variables hold what the program's text lays (the card ties them). -/
import Derived.SevenTiedAt
import Derived.Test.YtpiaiiopakafhaaGreatDoorCards
import Derived.Test.YtpiaiiopakafhaaGreatDoorTie
import Derived.Test.YtpiaiiopakafhaaGreatDoorQ6
namespace Go.Proofs.YtpiaiiopakafhaaGreatDoor
open Go.Ab Go.Tb
abbrev l6 : List Nat := [56, 3, 9, 57, 50, 48, 43]
theorem qw : ownKnob Tryz.prog.godebug = none := by kernel_rfl
theorem mP : laidOutB Tryz.prog = true := by kernel_rfl
set_option maxRecDepth 100000 in
theorem nD (hd : ∀ xs, gR aa [56, 57] xs → az Tryz.prog 6 xs (.d (.v (.bool true))) 0) (os : Os) (started : os.Started) (H : Type) (enc : TypeId × Value → H) :
    ReturnsInHanded {} Tryz.checked os 6 .any (fun w args => (Rows.chromeSingleSpec.pre enc Tryz.prog Tryz.f6 Rows.chromeSingleRow.domain false w args ∧ laidMet Tryz.prog Rows.chromeSingleRow.laid w) ∧ sizedMet enc Tryz.prog Tryz.f6 (OpenSpec.ofChange Rows.chromeSingleSpec) false w args) (Rows.chromeSingleSpec.post enc Tryz.prog Tryz.f6 false true false false) := by
  refine kX (C := Tryz.checked) (X := fun w _ => laidMet Tryz.prog Rows.chromeSingleRow.laid w) (fun _ _ _ hh h => h.of_heap hh) qw started (by kernel_rfl) Tryz.func6
    (uG (enc := enc) (C := Tryz.checked) (laid := Rows.chromeSingleRow.laid) false #[.agg #[.int .i64 0, .string ⟨#[]⟩, .int .i64 0], .slice none 0 0] 8 (by kernel_rfl) (by kernel_rfl) (by kernel_rfl) (by kernel_rfl) (by kernel_rfl) (by kernel_rfl) (by kernel_rfl)) ?_
  intro W base args ds gs before hval hW hshape hL
  refine vS aa (gs := l6) (tb := 4) (by kernel_rfl) ?_ mP ?_ (by kernel_rfl) Tryz.underlying4 rfl ?_ ?_ W ⟨hshape, FQ W hL⟩ base args ds gs before hval hW
  · intro t ht
    have e : Tryz.f6.params.toList = [56, 57] := by kernel_rfl
    rw [e] at ht
    have hall : ([56, 57] : List Nat).all (fun t => l6.contains t) = true := by decide
    have := List.all_eq_true.1 hall t ht
    simpa using this
  · intro t ht
    have e : Tryz.f6.params.toList = [56, 57] := by kernel_rfl
    rw [e] at ht
    have hall : ([56, 57] : List Nat).all (fun t => Tryz.prog.readableRec t && decide (t < Tryz.prog.types.size)) = true := by kernel_rfl
    have := List.all_eq_true.1 hall t ht
    simpa using this
  · intro ds hlen
    have e : Tryz.f6.params.size = 2 := by kernel_rfl
    rw [e] at hlen
    match ds, hlen with
    | [d1, d2], _ => rfl
  · intro xs h
    have e : Tryz.f6.params.toList = [56, 57] := by kernel_rfl
    rw [e] at h
    exact hd xs h

theorem rT (hd : ∀ xs, gR aa [56, 57] xs → az Tryz.prog 6 xs (.d (.v (.bool true))) 0) : Rows.ChromeSingleSaid :=
  OpenClaim.holds_of_wide 6 Tryz.f6 rfl rfl rfl rfl rfl rfl rfl ⟨rfl, rfl, rfl, rfl, rfl⟩ rfl rfl rfl rfl rfl (by kernel_rfl) Tryz.func6 (by kernel_rfl)
    (of_decide_eq_true (by kernel_rfl)) (by unfold Func.isWrapper; first | (rw [if_pos (by decide +kernel)]; kernel_rfl) | (rw [if_neg (by decide +kernel)]; exact ⟨rfl, rfl⟩))
    (fun os started H enc _ => nD hd os started H enc)

theorem py : ∀ xs, gR aa [56, 57] xs → az Tryz.prog 6 xs (.d (.v (.bool true))) 0 := by
  intro xs h
  obtain ⟨l0, r0, rfl, c0, h⟩ := h.inv
  obtain ⟨l1, r1, rfl, c1, h⟩ := h.inv
  have := h.F6
  subst this
  obtain ⟨x0, rfl⟩ := Cm c0 rfl rfl rfl
  obtain ⟨x1, rfl⟩ := xg c1 rfl (fun x hx => yD hx rfl rfl rfl rfl rfl)
  exact wo x0 x1

theorem nT : Rows.ChromeSingleSaid := rT py
theorem chromeSingle_card : Rows.ChromeSingleCardSaid :=
  Claim7.holds_tied_plain_at .later [] [.data, .data, .data, .sentinel, .sentinel] true (true, "1dae4bde635f40ea12784293ed2cd6d80f558439a319b6874bc2c370dcbb9741") true
    nT (fun _ h => by cases h) (by kernel_rfl) (fun _ h => by cases h) chromeSingle_row_tie rfl ⟨rfl, rfl⟩ (by kernel_rfl) rfl
    (fun f fn hf hfn => by
      obtain rfl : f = 6 := Option.some.inj ((show Tryz.prog.funcNamed "tracebook/tracebooklaw22.ChromeSingle" = some 6 by kernel_rfl).symm.trans hf) |>.symm
      obtain rfl : fn = Tryz.f6 := (Option.some.inj (Tryz.func6.symm.trans hfn)).symm
      exact ⟨by kernel_rfl, fun j t ht => by
        have e : Tryz.f6.params.toList = [56, 57] := by kernel_rfl
        have hm : t ∈ ([56, 57] : List Nat) := by rw [← e]; exact Array.mem_toList_iff.2 (Array.mem_of_getElem? ht)
        have hall : (([56, 57] : List Nat).all fun u => !Tryz.prog.wantsStandIn u) = true := by kernel_rfl
        exact (show Tryz.prog.wantsStandIn t = false by simpa using List.all_eq_true.1 hall t hm)⟩)
    (by kernel_rfl)
#print axioms chromeSingle_card
end Go.Proofs.YtpiaiiopakafhaaGreatDoor
