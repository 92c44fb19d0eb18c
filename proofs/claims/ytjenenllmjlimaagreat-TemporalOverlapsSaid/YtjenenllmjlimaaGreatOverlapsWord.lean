/- TemporalOverlaps: on every input the law's function returns true, and the input reads as it did. Without conditions. -/
import Derived.HandedShaped
import Derived.Test.YtjenenllmjlimaaGreatQ6
import Derived.Test.YtjenenllmjlimaaGreatRows
namespace Go.Proofs.YtjenenllmjlimaaGreat
open Go.Ab Go.Tb
abbrev jy : List Nat := [25, 22, 63, 9, 37, 23, 42, 39, 3, 26]
theorem lI : ownKnob Tryz.prog.godebug = none := by kernel_rfl
theorem kt : laidOutB Tryz.prog = true := by kernel_rfl
set_option maxRecDepth 100000 in
theorem kz (hd : ∀ xs, gA aa [25, 25, 26] xs → ax Tryz.prog 3 xs (.d (.v (.bool true))) 0) (os : Os) (started : os.Started) (H : Type) (enc : TypeId × Value → H) :
    ReturnsInHanded {} Tryz.checked os 3 .any (Rows.temporalOverlapsSpec.pre6 enc Tryz.prog Tryz.f3 Rows.temporalOverlapsRow.domain false) (Rows.temporalOverlapsSpec.post enc Tryz.prog Tryz.f3 false true false false) := by
  refine returnsInHanded_of_change_shaped (C := Tryz.checked) lI started (by kernel_rfl) Tryz.func3
    (ChangeSpec.witness6 (enc := enc) (C := Tryz.checked) false ⟨#[], #[.agg #[.slice none 0 0, .slice none 0 0], .agg #[.slice none 0 0, .slice none 0 0], .slice none 0 0], []⟩ 8 (by kernel_rfl) (by kernel_rfl) (by kernel_rfl) (by kernel_rfl)) ?_
  intro W base args ds gs before hval hW _ _ hshape _
  refine ru aa (gs := jy) (tb := 4) (by kernel_rfl) ?_ kt ?_ (by kernel_rfl) Tryz.underlying4 rfl ?_ ?_ W ⟨hshape, trivial⟩ base args ds gs before hval hW
  · intro t ht
    have e : Tryz.f3.params.toList = [25, 25, 26] := by kernel_rfl
    rw [e] at ht
    have hall : ([25, 25, 26] : List Nat).all (fun t => jy.contains t) = true := by decide
    have := List.all_eq_true.1 hall t ht
    simpa using this
  · intro t ht
    have e : Tryz.f3.params.toList = [25, 25, 26] := by kernel_rfl
    rw [e] at ht
    have hall : ([25, 25, 26] : List Nat).all (fun t => Tryz.prog.readableRec t && decide (t < Tryz.prog.types.size)) = true := by kernel_rfl
    have := List.all_eq_true.1 hall t ht
    simpa using this
  · intro ds hlen
    have e : Tryz.f3.params.size = 3 := by kernel_rfl
    rw [e] at hlen
    match ds, hlen with
    | [d1, d2, d3], _ => rfl
  · intro xs h
    have e : Tryz.f3.params.toList = [25, 25, 26] := by kernel_rfl
    rw [e] at h
    exact hd xs h

theorem l4 (hd : ∀ xs, gA aa [25, 25, 26] xs → ax Tryz.prog 3 xs (.d (.v (.bool true))) 0) : Rows.TemporalOverlapsSaid :=
  OpenClaim.holds_of_wide 3 Tryz.f3 rfl rfl rfl rfl rfl rfl rfl ⟨rfl, rfl, rfl, rfl, rfl⟩ rfl rfl rfl rfl rfl (by kernel_rfl) Tryz.func3 (by kernel_rfl)
    (of_decide_eq_true (by kernel_rfl)) (by unfold Func.isWrapper; first | (rw [if_pos (by decide +kernel)]; kernel_rfl) | (rw [if_neg (by decide +kernel)]; exact ⟨rfl, rfl⟩))
    (fun os started H enc _ => kz hd os started H enc)

theorem ln : ∀ xs, gA aa [25, 25, 26] xs → ax Tryz.prog 3 xs (.d (.v (.bool true))) 0 := by
  intro xs h
  obtain ⟨l0, r0, rfl, c0, h⟩ := h.inv
  obtain ⟨l1, r1, rfl, c1, h⟩ := h.inv
  obtain ⟨l2, r2, rfl, c2, h⟩ := h.inv
  have := h.xT
  subst this
  obtain ⟨x0, rfl⟩ := qy c0 rfl rfl rfl rfl rfl rfl rfl rfl rfl
  obtain ⟨x1, rfl⟩ := qy c1 rfl rfl rfl rfl rfl rfl rfl rfl rfl
  obtain ⟨x2, rfl⟩ := mO (f := sc) c2 rfl (fun x hx => nP hx rfl)
  exact rR x0 x1 x2

theorem temporalOverlaps_holds : Rows.TemporalOverlapsSaid := l4 ln
#print axioms temporalOverlaps_holds
end Go.Proofs.YtjenenllmjlimaaGreat

