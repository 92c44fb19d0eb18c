/- TemporalNearests: on every input the law's function returns true, and the input reads as it did. Without conditions. -/
import Derived.HandedShaped
import Derived.Test.YtjenenllmjlimaaGreatQ6
import Derived.Test.YtjenenllmjlimaaGreatRows
namespace Go.Proofs.YtjenenllmjlimaaGreat
open Go.Ab Go.Tb
abbrev jv : List Nat := [25, 22, 63, 9, 37, 23, 42, 39, 3, 26]
theorem ll : ownKnob Tryz.prog.godebug = none := by kernel_rfl
theorem kb : laidOutB Tryz.prog = true := by kernel_rfl
set_option maxRecDepth 100000 in
theorem kx (hd : ∀ xs, gF aa [25, 25, 26] xs → ax Tryz.prog 4 xs (.d (.v (.bool true))) 0) (os : Os) (started : os.Started) (H : Type) (enc : TypeId × Value → H) :
    ReturnsInHanded {} Tryz.checked os 4 .any (Rows.temporalNearestsSpec.pre6 enc Tryz.prog Tryz.f4 Rows.temporalNearestsRow.domain false) (Rows.temporalNearestsSpec.post enc Tryz.prog Tryz.f4 false true false false) := by
  refine returnsInHanded_of_change_shaped (C := Tryz.checked) ll started (by kernel_rfl) Tryz.func4
    (ChangeSpec.witness6 (enc := enc) (C := Tryz.checked) false ⟨#[], #[.agg #[.slice none 0 0, .slice none 0 0], .agg #[.slice none 0 0, .slice none 0 0], .slice none 0 0], []⟩ 8 (by kernel_rfl) (by kernel_rfl) (by kernel_rfl) (by kernel_rfl)) ?_
  intro W base args ds gs before hval hW _ _ hshape _
  refine q0 aa (gs := jv) (tb := 4) (by kernel_rfl) ?_ kb ?_ (by kernel_rfl) Tryz.underlying4 rfl ?_ ?_ W ⟨hshape, trivial⟩ base args ds gs before hval hW
  · intro t ht
    have e : Tryz.f4.params.toList = [25, 25, 26] := by kernel_rfl
    rw [e] at ht
    have hall : ([25, 25, 26] : List Nat).all (fun t => jv.contains t) = true := by decide
    have := List.all_eq_true.1 hall t ht
    simpa using this
  · intro t ht
    have e : Tryz.f4.params.toList = [25, 25, 26] := by kernel_rfl
    rw [e] at ht
    have hall : ([25, 25, 26] : List Nat).all (fun t => Tryz.prog.readableRec t && decide (t < Tryz.prog.types.size)) = true := by kernel_rfl
    have := List.all_eq_true.1 hall t ht
    simpa using this
  · intro ds hlen
    have e : Tryz.f4.params.size = 3 := by kernel_rfl
    rw [e] at hlen
    match ds, hlen with
    | [d1, d2, d3], _ => rfl
  · intro xs h
    have e : Tryz.f4.params.toList = [25, 25, 26] := by kernel_rfl
    rw [e] at h
    exact hd xs h

theorem lV (hd : ∀ xs, gF aa [25, 25, 26] xs → ax Tryz.prog 4 xs (.d (.v (.bool true))) 0) : Rows.TemporalNearestsSaid :=
  OpenClaim.holds_of_wide 4 Tryz.f4 rfl rfl rfl rfl rfl rfl rfl ⟨rfl, rfl, rfl, rfl, rfl⟩ rfl rfl rfl rfl rfl (by kernel_rfl) Tryz.func4 (by kernel_rfl)
    (of_decide_eq_true (by kernel_rfl)) (by unfold Func.isWrapper; first | (rw [if_pos (by decide +kernel)]; kernel_rfl) | (rw [if_neg (by decide +kernel)]; exact ⟨rfl, rfl⟩))
    (fun os started H enc _ => kx hd os started H enc)

theorem k0 : ∀ xs, gF aa [25, 25, 26] xs → ax Tryz.prog 4 xs (.d (.v (.bool true))) 0 := by
  intro xs h
  obtain ⟨l0, r0, rfl, c0, h⟩ := h.inv
  obtain ⟨l1, r1, rfl, c1, h⟩ := h.inv
  obtain ⟨l2, r2, rfl, c2, h⟩ := h.inv
  have := h.xT
  subst this
  obtain ⟨x0, rfl⟩ := qO c0 rfl rfl rfl rfl rfl rfl rfl rfl rfl
  obtain ⟨x1, rfl⟩ := qO c1 rfl rfl rfl rfl rfl rfl rfl rfl rfl
  obtain ⟨x2, rfl⟩ := mJ (f := sc) c2 rfl (fun x hx => nv hx rfl)
  exact rJ x0 x1 x2

theorem temporalNearests_holds : Rows.TemporalNearestsSaid := lV k0
#print axioms temporalNearests_holds
end Go.Proofs.YtjenenllmjlimaaGreat

