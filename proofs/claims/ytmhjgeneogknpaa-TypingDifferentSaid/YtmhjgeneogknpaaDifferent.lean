/- TypingDifferent: on every input the law's function returns true, and the input reads as it did. Without conditions. -/
import Derived.Test.YtmhjgeneogknpaaQ7
import Derived.Test.YtmhjgeneogknpaaRows
namespace Go.Proofs.Ytmhjgeneogknpaa
open Go.Ab Go.Tb
abbrev typingDifferentGs : List Nat := [41, 62, 9, 60, 22, 40, 24, 58, 93, 26, 3, 48, 42, 29, 23, 27, 43, 71, 44, 45, 56, 46, 77, 4]
theorem typingDifferent_own : ownKnob Try.prog.godebug = none := by kernel_rfl
theorem typingDifferent_laidOut : laidOutB Try.prog = true := by kernel_rfl
set_option maxRecDepth 100000 in
theorem typingDifferent_lifted (hd : ∀ xs, ConfA tab [41, 22, 48] xs → Does Try.prog 6 xs (.d (.v (.bool true))) 0) (os : Os) (started : os.Started) (H : Type) (enc : TypeId × Value → H) :
    ReturnsInHanded {} Try.checked os 6 .any (Rows.typingDifferentSpec.pre6 enc Try.prog Try.f6 Rows.typingDifferentRow.domain false) (Rows.typingDifferentSpec.post enc Try.prog Try.f6 false true false false) := by
  refine returnsInHanded_of_change (C := Try.checked) typingDifferent_own started (by kernel_rfl) Try.func6
    (ChangeSpec.witness6 (enc := enc) (C := Try.checked) false ⟨#[], #[.slice none 0 0, .slice none 0 0, .agg #[.int .i64 0, .int .i64 0, .string ⟨#[]⟩, .int .i64 0, .int .i64 0, .string ⟨#[]⟩, .slice none 0 0, .slice none 0 0, .slice none 0 0, .slice none 0 0, .slice none 0 0, .int .i64 0, .string ⟨#[]⟩]], []⟩ 8 (by kernel_rfl) (by kernel_rfl) (by kernel_rfl) (by kernel_rfl)) ?_
  intro W base args ds gs before hval hW _ _
  refine law_contract tab (gs := typingDifferentGs) (tb := 4) (by kernel_rfl) ?_ typingDifferent_laidOut ?_ (by kernel_rfl) Try.underlying4 rfl ?_ ?_ W base args ds gs before hval hW
  · intro t ht
    have e : Try.f6.params.toList = [41, 22, 48] := by kernel_rfl
    rw [e] at ht
    have hall : ([41, 22, 48] : List Nat).all (fun t => typingDifferentGs.contains t) = true := by decide
    have := List.all_eq_true.1 hall t ht
    simpa using this
  · intro t ht
    have e : Try.f6.params.toList = [41, 22, 48] := by kernel_rfl
    rw [e] at ht
    have hall : ([41, 22, 48] : List Nat).all (fun t => Try.prog.readableRec t && decide (t < Try.prog.types.size)) = true := by kernel_rfl
    have := List.all_eq_true.1 hall t ht
    simpa using this
  · intro ds hlen
    have e : Try.f6.params.size = 3 := by kernel_rfl
    rw [e] at hlen
    match ds, hlen with
    | [d1, d2, d3], _ => rfl
  · intro xs h
    have e : Try.f6.params.toList = [41, 22, 48] := by kernel_rfl
    rw [e] at h
    exact hd xs h

theorem typingDifferent_of (hd : ∀ xs, ConfA tab [41, 22, 48] xs → Does Try.prog 6 xs (.d (.v (.bool true))) 0) : Rows.TypingDifferentSaid :=
  OpenClaim.holds_of_wide 6 Try.f6 rfl rfl rfl rfl rfl rfl rfl ⟨rfl, rfl, rfl, rfl, rfl⟩ rfl rfl rfl rfl rfl (by kernel_rfl) Try.func6 (by kernel_rfl)
    (of_decide_eq_true (by kernel_rfl)) (by unfold Func.isWrapper; first | (rw [if_pos (by decide +kernel)]; kernel_rfl) | (rw [if_neg (by decide +kernel)]; exact ⟨rfl, rfl⟩))
    (fun os started H enc _ => typingDifferent_lifted hd os started H enc)

theorem typingDifferent_data : ∀ xs, ConfA tab [41, 22, 48] xs → Does Try.prog 6 xs (.d (.v (.bool true))) 0 := by
  intro xs h
  obtain ⟨l0, r0, rfl, c0, h⟩ := h.inv
  obtain ⟨l1, r1, rfl, c1, h⟩ := h.inv
  obtain ⟨l2, r2, rfl, c2, h⟩ := h.inv
  have := h.inv0
  subst this
  obtain ⟨x0, rfl⟩ := conf_sl c0 rfl (fun x hx => conf_nmd hx rfl rfl rfl rfl rfl rfl rfl rfl rfl rfl)
  obtain ⟨x1, rfl⟩ := conf_sl c1 rfl (fun x hx => conf_col hx rfl rfl rfl)
  obtain ⟨x2, rfl⟩ := conf_step c2 rfl rfl rfl rfl rfl rfl rfl rfl rfl rfl rfl rfl rfl rfl rfl rfl rfl
  exact different_fn x0 x1 x2

theorem typingDifferent_holds : Rows.TypingDifferentSaid := typingDifferent_of typingDifferent_data
#print axioms typingDifferent_holds
end Go.Proofs.Ytmhjgeneogknpaa

