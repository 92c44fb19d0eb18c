/- TemporalRows: on every input the law's function returns true, and the input reads as it did. Without conditions. -/
import Derived.HandedShaped
import Derived.Test.YtjenenllmjlimaaQ5
import Derived.Test.YtjenenllmjlimaaRows
namespace Go.Proofs.Ytjenenllmjlimaa
open Go.Ab Go.Tb
abbrev jX : List Nat := [25, 22, 66, 9, 36, 23, 35, 38, 3, 26]
theorem mj : ownKnob Try.prog.godebug = none := by kernel_rfl
theorem kf : laidOutB Try.prog = true := by kernel_rfl
set_option maxRecDepth 100000 in
theorem kG (hd : ∀ xs, fh aa [25, 25, 26] xs → aw Try.prog 4 xs (.d (.v (.bool true))) 0) (os : Os) (started : os.Started) (H : Type) (enc : TypeId × Value → H) :
    ReturnsInHanded {} Try.checked os 4 .any (Rows.temporalRowsSpec.pre6 enc Try.prog Try.f4 Rows.temporalRowsRow.domain false) (Rows.temporalRowsSpec.post enc Try.prog Try.f4 false true false false) := by
  refine returnsInHanded_of_change_shaped (C := Try.checked) mj started (by kernel_rfl) Try.func4
    (ChangeSpec.witness6 (enc := enc) (C := Try.checked) false ⟨#[], #[.agg #[.slice none 0 0, .slice none 0 0], .agg #[.slice none 0 0, .slice none 0 0], .slice none 0 0], []⟩ 8 (by kernel_rfl) (by kernel_rfl) (by kernel_rfl) (by kernel_rfl)) ?_
  intro W base args ds gs before hval hW _ _ hshape _
  refine px aa (gs := jX) (tb := 4) (by kernel_rfl) ?_ kf ?_ (by kernel_rfl) Try.underlying4 rfl ?_ ?_ W ⟨hshape, trivial⟩ base args ds gs before hval hW
  · intro t ht
    have e : Try.f4.params.toList = [25, 25, 26] := by kernel_rfl
    rw [e] at ht
    have hall : ([25, 25, 26] : List Nat).all (fun t => jX.contains t) = true := by decide
    have := List.all_eq_true.1 hall t ht
    simpa using this
  · intro t ht
    have e : Try.f4.params.toList = [25, 25, 26] := by kernel_rfl
    rw [e] at ht
    have hall : ([25, 25, 26] : List Nat).all (fun t => Try.prog.readableRec t && decide (t < Try.prog.types.size)) = true := by kernel_rfl
    have := List.all_eq_true.1 hall t ht
    simpa using this
  · intro ds hlen
    have e : Try.f4.params.size = 3 := by kernel_rfl
    rw [e] at hlen
    match ds, hlen with
    | [d1, d2, d3], _ => rfl
  · intro xs h
    have e : Try.f4.params.toList = [25, 25, 26] := by kernel_rfl
    rw [e] at h
    exact hd xs h

theorem mW (hd : ∀ xs, fh aa [25, 25, 26] xs → aw Try.prog 4 xs (.d (.v (.bool true))) 0) : Rows.TemporalRowsSaid :=
  OpenClaim.holds_of_wide 4 Try.f4 rfl rfl rfl rfl rfl rfl rfl ⟨rfl, rfl, rfl, rfl, rfl⟩ rfl rfl rfl rfl rfl (by kernel_rfl) Try.func4 (by kernel_rfl)
    (of_decide_eq_true (by kernel_rfl)) (by unfold Func.isWrapper; first | (rw [if_pos (by decide +kernel)]; kernel_rfl) | (rw [if_neg (by decide +kernel)]; exact ⟨rfl, rfl⟩))
    (fun os started H enc _ => kG hd os started H enc)

theorem lT : ∀ xs, fh aa [25, 25, 26] xs → aw Try.prog 4 xs (.d (.v (.bool true))) 0 := by
  intro xs h
  obtain ⟨l0, r0, rfl, c0, h⟩ := h.inv
  obtain ⟨l1, r1, rfl, c1, h⟩ := h.inv
  obtain ⟨l2, r2, rfl, c2, h⟩ := h.inv
  have := h.wi
  subst this
  obtain ⟨x0, rfl⟩ := pQ c0 rfl rfl rfl rfl rfl rfl rfl rfl rfl
  obtain ⟨x1, rfl⟩ := pQ c1 rfl rfl rfl rfl rfl rfl rfl rfl rfl
  obtain ⟨x2, rfl⟩ := lH (f := sc) c2 rfl (fun x hx => mE hx rfl)
  exact uG x0 x1 x2

theorem temporalRows_holds : Rows.TemporalRowsSaid := mW lT
#print axioms temporalRows_holds
end Go.Proofs.Ytjenenllmjlimaa

