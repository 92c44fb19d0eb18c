/- TemporalUnites: on every input the law's function returns true, and the input reads as it did. Without conditions. -/
import Derived.HandedShaped
import Derived.Test.YtjenenllmjlimaaQ5
import Derived.Test.YtjenenllmjlimaaRows
namespace Go.Proofs.Ytjenenllmjlimaa
open Go.Ab Go.Tb
abbrev kb : List Nat := [25, 22, 66, 9, 36, 23, 35, 38, 3, 26]
theorem mK : ownKnob Try.prog.godebug = none := by kernel_rfl
theorem kQ : laidOutB Try.prog = true := by kernel_rfl
set_option maxRecDepth 100000 in
theorem lf (hd : ∀ xs, gd aa [25, 26] xs → aw Try.prog 5 xs (.d (.v (.bool true))) 0) (os : Os) (started : os.Started) (H : Type) (enc : TypeId × Value → H) :
    ReturnsInHanded {} Try.checked os 5 .any (Rows.temporalUnitesSpec.pre6 enc Try.prog Try.f5 Rows.temporalUnitesRow.domain false) (Rows.temporalUnitesSpec.post enc Try.prog Try.f5 false true false false) := by
  refine returnsInHanded_of_change_shaped (C := Try.checked) mK started (by kernel_rfl) Try.func5
    (ChangeSpec.witness6 (enc := enc) (C := Try.checked) false ⟨#[], #[.agg #[.slice none 0 0, .slice none 0 0], .slice none 0 0], []⟩ 8 (by kernel_rfl) (by kernel_rfl) (by kernel_rfl) (by kernel_rfl)) ?_
  intro W base args ds gs before hval hW _ _ hshape _
  refine rv aa (gs := kb) (tb := 4) (by kernel_rfl) ?_ kQ ?_ (by kernel_rfl) Try.underlying4 rfl ?_ ?_ W ⟨hshape, trivial⟩ base args ds gs before hval hW
  · intro t ht
    have e : Try.f5.params.toList = [25, 26] := by kernel_rfl
    rw [e] at ht
    have hall : ([25, 26] : List Nat).all (fun t => kb.contains t) = true := by decide
    have := List.all_eq_true.1 hall t ht
    simpa using this
  · intro t ht
    have e : Try.f5.params.toList = [25, 26] := by kernel_rfl
    rw [e] at ht
    have hall : ([25, 26] : List Nat).all (fun t => Try.prog.readableRec t && decide (t < Try.prog.types.size)) = true := by kernel_rfl
    have := List.all_eq_true.1 hall t ht
    simpa using this
  · intro ds hlen
    have e : Try.f5.params.size = 2 := by kernel_rfl
    rw [e] at hlen
    match ds, hlen with
    | [d1, d2], _ => rfl
  · intro xs h
    have e : Try.f5.params.toList = [25, 26] := by kernel_rfl
    rw [e] at h
    exact hd xs h

theorem nz (hd : ∀ xs, gd aa [25, 26] xs → aw Try.prog 5 xs (.d (.v (.bool true))) 0) : Rows.TemporalUnitesSaid :=
  OpenClaim.holds_of_wide 5 Try.f5 rfl rfl rfl rfl rfl rfl rfl ⟨rfl, rfl, rfl, rfl, rfl⟩ rfl rfl rfl rfl rfl (by kernel_rfl) Try.func5 (by kernel_rfl)
    (of_decide_eq_true (by kernel_rfl)) (by unfold Func.isWrapper; first | (rw [if_pos (by decide +kernel)]; kernel_rfl) | (rw [if_neg (by decide +kernel)]; exact ⟨rfl, rfl⟩))
    (fun os started H enc _ => lf hd os started H enc)

theorem l4 : ∀ xs, gd aa [25, 26] xs → aw Try.prog 5 xs (.d (.v (.bool true))) 0 := by
  intro xs h
  obtain ⟨l0, r0, rfl, c0, h⟩ := h.inv
  obtain ⟨l1, r1, rfl, c1, h⟩ := h.inv
  have := h.yK
  subst this
  obtain ⟨x0, rfl⟩ := vC c0 rfl rfl rfl rfl rfl rfl rfl rfl rfl
  obtain ⟨x1, rfl⟩ := m9 (f := sc) c1 rfl (fun x hx => od hx rfl)
  exact uU x0 x1

theorem temporalUnites_holds : Rows.TemporalUnitesSaid := nz l4
#print axioms temporalUnites_holds
end Go.Proofs.Ytjenenllmjlimaa

