/- TemporalCoalesces: on every input the law's function returns true, and the input reads as it did. Without conditions. -/
import Derived.HandedShaped
import Derived.Test.YtjenenllmjlimaaGreatQ6
import Derived.Test.YtjenenllmjlimaaGreatRows
namespace Go.Proofs.YtjenenllmjlimaaGreat
open Go.Ab Go.Tb
abbrev jS : List Nat := [25, 22, 63, 9, 37, 23, 42, 39, 3, 26]
theorem mv : ownKnob Tryz.prog.godebug = none := by kernel_rfl
theorem kM : laidOutB Tryz.prog = true := by kernel_rfl
set_option maxRecDepth 100000 in
theorem kX (hd : ∀ xs, iu aa [25, 26] xs → ax Tryz.prog 5 xs (.d (.v (.bool true))) 0) (os : Os) (started : os.Started) (H : Type) (enc : TypeId × Value → H) :
    ReturnsInHanded {} Tryz.checked os 5 .any (Rows.temporalCoalescesSpec.pre6 enc Tryz.prog Tryz.f5 Rows.temporalCoalescesRow.domain false) (Rows.temporalCoalescesSpec.post enc Tryz.prog Tryz.f5 false true false false) := by
  refine returnsInHanded_of_change_shaped (C := Tryz.checked) mv started (by kernel_rfl) Tryz.func5
    (ChangeSpec.witness6 (enc := enc) (C := Tryz.checked) false ⟨#[], #[.agg #[.slice none 0 0, .slice none 0 0], .slice none 0 0], []⟩ 8 (by kernel_rfl) (by kernel_rfl) (by kernel_rfl) (by kernel_rfl)) ?_
  intro W base args ds gs before hval hW _ _ hshape _
  refine sN aa (gs := jS) (tb := 4) (by kernel_rfl) ?_ kM ?_ (by kernel_rfl) Tryz.underlying4 rfl ?_ ?_ W ⟨hshape, trivial⟩ base args ds gs before hval hW
  · intro t ht
    have e : Tryz.f5.params.toList = [25, 26] := by kernel_rfl
    rw [e] at ht
    have hall : ([25, 26] : List Nat).all (fun t => jS.contains t) = true := by decide
    have := List.all_eq_true.1 hall t ht
    simpa using this
  · intro t ht
    have e : Tryz.f5.params.toList = [25, 26] := by kernel_rfl
    rw [e] at ht
    have hall : ([25, 26] : List Nat).all (fun t => Tryz.prog.readableRec t && decide (t < Tryz.prog.types.size)) = true := by kernel_rfl
    have := List.all_eq_true.1 hall t ht
    simpa using this
  · intro ds hlen
    have e : Tryz.f5.params.size = 2 := by kernel_rfl
    rw [e] at hlen
    match ds, hlen with
    | [d1, d2], _ => rfl
  · intro xs h
    have e : Tryz.f5.params.toList = [25, 26] := by kernel_rfl
    rw [e] at h
    exact hd xs h

theorem mE (hd : ∀ xs, iu aa [25, 26] xs → ax Tryz.prog 5 xs (.d (.v (.bool true))) 0) : Rows.TemporalCoalescesSaid :=
  OpenClaim.holds_of_wide 5 Tryz.f5 rfl rfl rfl rfl rfl rfl rfl ⟨rfl, rfl, rfl, rfl, rfl⟩ rfl rfl rfl rfl rfl (by kernel_rfl) Tryz.func5 (by kernel_rfl)
    (of_decide_eq_true (by kernel_rfl)) (by unfold Func.isWrapper; first | (rw [if_pos (by decide +kernel)]; kernel_rfl) | (rw [if_neg (by decide +kernel)]; exact ⟨rfl, rfl⟩))
    (fun os started H enc _ => kX hd os started H enc)

theorem l5 : ∀ xs, iu aa [25, 26] xs → ax Tryz.prog 5 xs (.d (.v (.bool true))) 0 := by
  intro xs h
  obtain ⟨l0, r0, rfl, c0, h⟩ := h.inv
  obtain ⟨l1, r1, rfl, c1, h⟩ := h.inv
  have := h.Bk
  subst this
  obtain ⟨x0, rfl⟩ := ym c0 rfl rfl rfl rfl rfl rfl rfl rfl rfl
  obtain ⟨x1, rfl⟩ := o9 (f := sc) c1 rfl (fun x hx => pW hx rfl)
  exact ud x0 x1

theorem temporalCoalesces_holds : Rows.TemporalCoalescesSaid := mE l5
#print axioms temporalCoalesces_holds
end Go.Proofs.YtjenenllmjlimaaGreat

