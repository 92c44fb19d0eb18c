/- TypingSteps: on every input the law's function returns true, and the input reads as it did. Without conditions. -/
import Derived.Test.YtmhjgeneogknpaaGreatQ9
import Derived.Test.YtmhjgeneogknpaaGreatRows
namespace Go.Proofs.YtmhjgeneogknpaaGreat
open Go.Ab Go.Tb
abbrev typingStepsGs : List Nat := [22, 64, 9, 62, 23, 54, 26, 60, 83, 28, 3, 37, 24, 31, 25, 29, 32, 68, 33, 34, 59, 35, 74, 4]
theorem typingSteps_own : ownKnob Tryz.prog.godebug = none := by kernel_rfl
theorem typingSteps_laidOut : laidOutB Tryz.prog = true := by kernel_rfl
set_option maxRecDepth 100000 in
theorem typingSteps_lifted (hd : ∀ xs, ConfA tab [22, 23, 37] xs → Does Tryz.prog 3 xs (.d (.v (.bool true))) 0) (os : Os) (started : os.Started) (H : Type) (enc : TypeId × Value → H) :
    ReturnsInHanded {} Tryz.checked os 3 .any (Rows.typingStepsSpec.pre6 enc Tryz.prog Tryz.f3 Rows.typingStepsRow.domain false) (Rows.typingStepsSpec.post enc Tryz.prog Tryz.f3 false true false false) := by
  refine returnsInHanded_of_change (C := Tryz.checked) typingSteps_own started (by kernel_rfl) Tryz.func3
    (ChangeSpec.witness6 (enc := enc) (C := Tryz.checked) false ⟨#[], #[.slice none 0 0, .slice none 0 0, .agg #[.int .i64 0, .int .i64 0, .string ⟨#[]⟩, .int .i64 0, .int .i64 0, .string ⟨#[]⟩, .slice none 0 0, .slice none 0 0, .slice none 0 0, .slice none 0 0, .slice none 0 0, .int .i64 0, .string ⟨#[]⟩]], []⟩ 8 (by kernel_rfl) (by kernel_rfl) (by kernel_rfl) (by kernel_rfl)) ?_
  intro W base args ds gs before hval hW _ _
  refine law_contract tab (gs := typingStepsGs) (tb := 4) (by kernel_rfl) ?_ typingSteps_laidOut ?_ (by kernel_rfl) Tryz.underlying4 rfl ?_ ?_ W base args ds gs before hval hW
  · intro t ht
    have e : Tryz.f3.params.toList = [22, 23, 37] := by kernel_rfl
    rw [e] at ht
    have hall : ([22, 23, 37] : List Nat).all (fun t => typingStepsGs.contains t) = true := by decide
    have := List.all_eq_true.1 hall t ht
    simpa using this
  · intro t ht
    have e : Tryz.f3.params.toList = [22, 23, 37] := by kernel_rfl
    rw [e] at ht
    have hall : ([22, 23, 37] : List Nat).all (fun t => Tryz.prog.readableRec t && decide (t < Tryz.prog.types.size)) = true := by kernel_rfl
    have := List.all_eq_true.1 hall t ht
    simpa using this
  · intro ds hlen
    have e : Tryz.f3.params.size = 3 := by kernel_rfl
    rw [e] at hlen
    match ds, hlen with
    | [d1, d2, d3], _ => rfl
  · intro xs h
    have e : Tryz.f3.params.toList = [22, 23, 37] := by kernel_rfl
    rw [e] at h
    exact hd xs h

theorem typingSteps_of (hd : ∀ xs, ConfA tab [22, 23, 37] xs → Does Tryz.prog 3 xs (.d (.v (.bool true))) 0) : Rows.TypingStepsSaid :=
  OpenClaim.holds_of_wide 3 Tryz.f3 rfl rfl rfl rfl rfl rfl rfl ⟨rfl, rfl, rfl, rfl, rfl⟩ rfl rfl rfl rfl rfl (by kernel_rfl) Tryz.func3 (by kernel_rfl)
    (of_decide_eq_true (by kernel_rfl)) (by unfold Func.isWrapper; first | (rw [if_pos (by decide +kernel)]; kernel_rfl) | (rw [if_neg (by decide +kernel)]; exact ⟨rfl, rfl⟩))
    (fun os started H enc _ => typingSteps_lifted hd os started H enc)

theorem typingSteps_data : ∀ xs, ConfA tab [22, 23, 37] xs → Does Tryz.prog 3 xs (.d (.v (.bool true))) 0 := by
  intro xs h
  obtain ⟨l0, r0, rfl, c0, h⟩ := h.inv
  obtain ⟨l1, r1, rfl, c1, h⟩ := h.inv
  obtain ⟨l2, r2, rfl, c2, h⟩ := h.inv
  have := h.inv0
  subst this
  obtain ⟨x0, rfl⟩ := conf_sl c0 rfl (fun x hx => conf_nmd hx rfl rfl rfl rfl rfl rfl rfl rfl rfl rfl)
  obtain ⟨x1, rfl⟩ := conf_sl c1 rfl (fun x hx => conf_col hx rfl rfl rfl)
  obtain ⟨x2, rfl⟩ := conf_step c2 rfl rfl rfl rfl rfl rfl rfl rfl rfl rfl rfl rfl rfl rfl rfl rfl rfl
  exact steps_fn x0 x1 x2

theorem typingSteps_holds : Rows.TypingStepsSaid := typingSteps_of typingSteps_data
#print axioms typingSteps_holds
end Go.Proofs.YtmhjgeneogknpaaGreat

