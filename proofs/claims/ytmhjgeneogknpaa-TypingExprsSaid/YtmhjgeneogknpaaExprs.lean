/- TypingExprs: on every input the law's function returns true, and the input reads as it did. Without conditions. -/
import Derived.Test.YtmhjgeneogknpaaQ7
import Derived.Test.YtmhjgeneogknpaaRows
namespace Go.Proofs.Ytmhjgeneogknpaa
open Go.Ab Go.Tb
abbrev typingExprsGs : List Nat := [22, 40, 9, 24, 29, 23, 26, 3, 27]
theorem typingExprs_own : ownKnob Try.prog.godebug = none := by kernel_rfl
theorem typingExprs_laidOut : laidOutB Try.prog = true := by kernel_rfl
set_option maxRecDepth 100000 in
theorem typingExprs_lifted (hd : ∀ xs, ConfA tab [22, 29] xs → Does Try.prog 3 xs (.d (.v (.bool true))) 0) (os : Os) (started : os.Started) (H : Type) (enc : TypeId × Value → H) :
    ReturnsInHanded {} Try.checked os 3 .any (Rows.typingExprsSpec.pre6 enc Try.prog Try.f3 Rows.typingExprsRow.domain false) (Rows.typingExprsSpec.post enc Try.prog Try.f3 false true false false) := by
  refine returnsInHanded_of_change (C := Try.checked) typingExprs_own started (by kernel_rfl) Try.func3
    (ChangeSpec.witness6 (enc := enc) (C := Try.checked) false ⟨#[], #[.slice none 0 0, .agg #[.int .i64 0, .string ⟨#[]⟩, .int .i64 0, .int .i64 0, .string ⟨#[]⟩, .slice none 0 0]], []⟩ 8 (by kernel_rfl) (by kernel_rfl) (by kernel_rfl) (by kernel_rfl)) ?_
  intro W base args ds gs before hval hW _ _
  refine law_contract tab (gs := typingExprsGs) (tb := 4) (by kernel_rfl) ?_ typingExprs_laidOut ?_ (by kernel_rfl) Try.underlying4 rfl ?_ ?_ W base args ds gs before hval hW
  · intro t ht
    have e : Try.f3.params.toList = [22, 29] := by kernel_rfl
    rw [e] at ht
    have hall : ([22, 29] : List Nat).all (fun t => typingExprsGs.contains t) = true := by decide
    have := List.all_eq_true.1 hall t ht
    simpa using this
  · intro t ht
    have e : Try.f3.params.toList = [22, 29] := by kernel_rfl
    rw [e] at ht
    have hall : ([22, 29] : List Nat).all (fun t => Try.prog.readableRec t && decide (t < Try.prog.types.size)) = true := by kernel_rfl
    have := List.all_eq_true.1 hall t ht
    simpa using this
  · intro ds hlen
    have e : Try.f3.params.size = 2 := by kernel_rfl
    rw [e] at hlen
    match ds, hlen with
    | [d1, d2], _ => rfl
  · intro xs h
    have e : Try.f3.params.toList = [22, 29] := by kernel_rfl
    rw [e] at h
    exact hd xs h

theorem typingExprs_of (hd : ∀ xs, ConfA tab [22, 29] xs → Does Try.prog 3 xs (.d (.v (.bool true))) 0) : Rows.TypingExprsSaid :=
  OpenClaim.holds_of_wide 3 Try.f3 rfl rfl rfl rfl rfl rfl rfl ⟨rfl, rfl, rfl, rfl, rfl⟩ rfl rfl rfl rfl rfl (by kernel_rfl) Try.func3 (by kernel_rfl)
    (of_decide_eq_true (by kernel_rfl)) (by unfold Func.isWrapper; first | (rw [if_pos (by decide +kernel)]; kernel_rfl) | (rw [if_neg (by decide +kernel)]; exact ⟨rfl, rfl⟩))
    (fun os started H enc _ => typingExprs_lifted hd os started H enc)

theorem typingExprs_data : ∀ xs, ConfA tab [22, 29] xs → Does Try.prog 3 xs (.d (.v (.bool true))) 0 := by
  intro xs h
  obtain ⟨l0, r0, rfl, c0, h⟩ := h.inv
  obtain ⟨l1, r1, rfl, c1, h⟩ := h.inv
  have := h.inv0
  subst this
  obtain ⟨x0, rfl⟩ := conf_sl c0 rfl (fun x hx => conf_col hx rfl rfl rfl)
  obtain ⟨x1, rfl⟩ := conf_expr rfl rfl rfl rfl rfl rfl rfl _ c1
  exact exprs_fn x0 x1

theorem typingExprs_holds : Rows.TypingExprsSaid := typingExprs_of typingExprs_data
#print axioms typingExprs_holds
end Go.Proofs.Ytmhjgeneogknpaa

