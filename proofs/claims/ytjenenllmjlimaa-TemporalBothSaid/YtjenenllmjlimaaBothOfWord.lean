/- TemporalBoth: on every input the law's function returns true, and the input reads as it did. Without conditions. -/
import Derived.HandedShaped
import Derived.Test.YtjenenllmjlimaaQ5
import Derived.Test.YtjenenllmjlimaaRows
namespace Go.Proofs.Ytjenenllmjlimaa
open Go.Ab Go.Tb
abbrev kj : List Nat := [25, 22, 66, 9, 36, 23, 35, 38, 3, 26]
theorem mN : ownKnob Try.prog.godebug = none := by kernel_rfl
theorem kP : laidOutB Try.prog = true := by kernel_rfl
set_option maxRecDepth 100000 in
theorem lb (hd : ∀ xs, fA aa [25, 25, 26] xs → aw Try.prog 3 xs (.d (.v (.bool true))) 0) (os : Os) (started : os.Started) (H : Type) (enc : TypeId × Value → H) :
    ReturnsInHanded {} Try.checked os 3 .any (Rows.temporalBothSpec.pre6 enc Try.prog Try.f3 Rows.temporalBothRow.domain false) (Rows.temporalBothSpec.post enc Try.prog Try.f3 false true false false) := by
  refine returnsInHanded_of_change_shaped (C := Try.checked) mN started (by kernel_rfl) Try.func3
    (ChangeSpec.witness6 (enc := enc) (C := Try.checked) false ⟨#[], #[.agg #[.slice none 0 0, .slice none 0 0], .agg #[.slice none 0 0, .slice none 0 0], .slice none 0 0], []⟩ 8 (by kernel_rfl) (by kernel_rfl) (by kernel_rfl) (by kernel_rfl)) ?_
  intro W base args ds gs before hval hW _ _ hshape _
  refine qi aa (gs := kj) (tb := 4) (by kernel_rfl) ?_ kP ?_ (by kernel_rfl) Try.underlying4 rfl ?_ ?_ W ⟨hshape, trivial⟩ base args ds gs before hval hW
  · intro t ht
    have e : Try.f3.params.toList = [25, 25, 26] := by kernel_rfl
    rw [e] at ht
    have hall : ([25, 25, 26] : List Nat).all (fun t => kj.contains t) = true := by decide
    have := List.all_eq_true.1 hall t ht
    simpa using this
  · intro t ht
    have e : Try.f3.params.toList = [25, 25, 26] := by kernel_rfl
    rw [e] at ht
    have hall : ([25, 25, 26] : List Nat).all (fun t => Try.prog.readableRec t && decide (t < Try.prog.types.size)) = true := by kernel_rfl
    have := List.all_eq_true.1 hall t ht
    simpa using this
  · intro ds hlen
    have e : Try.f3.params.size = 3 := by kernel_rfl
    rw [e] at hlen
    match ds, hlen with
    | [d1, d2, d3], _ => rfl
  · intro xs h
    have e : Try.f3.params.toList = [25, 25, 26] := by kernel_rfl
    rw [e] at h
    exact hd xs h

theorem ng (hd : ∀ xs, fA aa [25, 25, 26] xs → aw Try.prog 3 xs (.d (.v (.bool true))) 0) : Rows.TemporalBothSaid :=
  OpenClaim.holds_of_wide 3 Try.f3 rfl rfl rfl rfl rfl rfl rfl ⟨rfl, rfl, rfl, rfl, rfl⟩ rfl rfl rfl rfl rfl (by kernel_rfl) Try.func3 (by kernel_rfl)
    (of_decide_eq_true (by kernel_rfl)) (by unfold Func.isWrapper; first | (rw [if_pos (by decide +kernel)]; kernel_rfl) | (rw [if_neg (by decide +kernel)]; exact ⟨rfl, rfl⟩))
    (fun os started H enc _ => lb hd os started H enc)

theorem mq : ∀ xs, fA aa [25, 25, 26] xs → aw Try.prog 3 xs (.d (.v (.bool true))) 0 := by
  intro xs h
  obtain ⟨l0, r0, rfl, c0, h⟩ := h.inv
  obtain ⟨l1, r1, rfl, c1, h⟩ := h.inv
  obtain ⟨l2, r2, rfl, c2, h⟩ := h.inv
  have := h.xe
  subst this
  obtain ⟨x0, rfl⟩ := qg c0 rfl rfl rfl rfl rfl rfl rfl rfl rfl
  obtain ⟨x1, rfl⟩ := qg c1 rfl rfl rfl rfl rfl rfl rfl rfl rfl
  obtain ⟨x2, rfl⟩ := ma (f := sc) c2 rfl (fun x hx => mV hx rfl)
  exact uT x0 x1 x2

theorem temporalBoth_holds : Rows.TemporalBothSaid := ng mq
#print axioms temporalBoth_holds
end Go.Proofs.Ytjenenllmjlimaa

