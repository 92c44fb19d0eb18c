/- EvalLogic: on every input the law's function returns true, and the input reads as it did. Without conditions. -/
import Derived.HandedShaped
import Derived.Test.YtaifpecinbjgcaaQ6
import Derived.Test.YtaifpecinbjgcaaRows
namespace Go.Proofs.Ytaifpecinbjgcaa
open Go.Ab Go.Tb
abbrev evalLogicGs : List Nat := [22, 51, 9, 25, 23, 27, 3, 30, 24, 28]
theorem evalLogic_own : ownKnob Try.prog.godebug = none := by kernel_rfl
theorem evalLogic_laidOut : laidOutB Try.prog = true := by kernel_rfl
set_option maxRecDepth 100000 in
theorem evalLogic_lifted (hd : ∀ xs, ConfA tab [22, 23, 30, 30] xs → Does Try.prog 4 xs (.d (.v (.bool true))) 0) (os : Os) (started : os.Started) (H : Type) (enc : TypeId × Value → H) :
    ReturnsInHanded {} Try.checked os 4 .any (Rows.evalLogicSpec.pre6 enc Try.prog Try.f4 Rows.evalLogicRow.domain false) (Rows.evalLogicSpec.post enc Try.prog Try.f4 false true false false) := by
  refine returnsInHanded_of_change_shaped (C := Try.checked) evalLogic_own started (by kernel_rfl) Try.func4
    (ChangeSpec.witness6 (enc := enc) (C := Try.checked) false ⟨#[], #[.slice none 0 0, .slice none 0 0, .agg #[.int .i64 0, .string ⟨#[]⟩, .int .i64 0, .int .i64 0, .string ⟨#[]⟩, .slice none 0 0], .agg #[.int .i64 0, .string ⟨#[]⟩, .int .i64 0, .int .i64 0, .string ⟨#[]⟩, .slice none 0 0]], []⟩ 8 (by kernel_rfl) (by kernel_rfl) (by kernel_rfl) (by kernel_rfl)) ?_
  intro W base args ds gs before hval hW _ _ hshape _
  refine law_contract tab (gs := evalLogicGs) (tb := 4) (by kernel_rfl) ?_ evalLogic_laidOut ?_ (by kernel_rfl) Try.underlying4 rfl ?_ ?_ W hshape base args ds gs before hval hW
  · intro t ht
    have e : Try.f4.params.toList = [22, 23, 30, 30] := by kernel_rfl
    rw [e] at ht
    have hall : ([22, 23, 30, 30] : List Nat).all (fun t => evalLogicGs.contains t) = true := by decide
    have := List.all_eq_true.1 hall t ht
    simpa using this
  · intro t ht
    have e : Try.f4.params.toList = [22, 23, 30, 30] := by kernel_rfl
    rw [e] at ht
    have hall : ([22, 23, 30, 30] : List Nat).all (fun t => Try.prog.readableRec t && decide (t < Try.prog.types.size)) = true := by kernel_rfl
    have := List.all_eq_true.1 hall t ht
    simpa using this
  · intro ds hlen
    have e : Try.f4.params.size = 4 := by kernel_rfl
    rw [e] at hlen
    match ds, hlen with
    | [d1, d2, d3, d4], _ => rfl
  · intro xs h
    have e : Try.f4.params.toList = [22, 23, 30, 30] := by kernel_rfl
    rw [e] at h
    exact hd xs h

theorem evalLogic_of (hd : ∀ xs, ConfA tab [22, 23, 30, 30] xs → Does Try.prog 4 xs (.d (.v (.bool true))) 0) : Rows.EvalLogicSaid :=
  OpenClaim.holds_of_wide 4 Try.f4 rfl rfl rfl rfl rfl rfl rfl ⟨rfl, rfl, rfl, rfl, rfl⟩ rfl rfl rfl rfl rfl (by kernel_rfl) Try.func4 (by kernel_rfl)
    (of_decide_eq_true (by kernel_rfl)) (by unfold Func.isWrapper; first | (rw [if_pos (by decide +kernel)]; kernel_rfl) | (rw [if_neg (by decide +kernel)]; exact ⟨rfl, rfl⟩))
    (fun os started H enc _ => evalLogic_lifted hd os started H enc)

theorem evalLogic_data : ∀ xs, ConfA tab [22, 23, 30, 30] xs → Does Try.prog 4 xs (.d (.v (.bool true))) 0 := by
  intro xs h
  obtain ⟨l0, r0, rfl, c0, h⟩ := h.inv
  obtain ⟨l1, r1, rfl, c1, h⟩ := h.inv
  obtain ⟨l2, r2, rfl, c2, h⟩ := h.inv
  obtain ⟨l3, r3, rfl, c3, h⟩ := h.inv
  have := h.inv0
  subst this
  obtain ⟨x0, rfl⟩ := conf_sl c0 rfl (fun x hx => conf_col hx rfl rfl rfl)
  obtain ⟨x1, rfl⟩ := conf_sl c1 rfl (fun x hx => conf_val hx rfl rfl rfl rfl)
  obtain ⟨x2, rfl⟩ := conf_expr rfl rfl rfl rfl rfl rfl rfl _ c2
  obtain ⟨x3, rfl⟩ := conf_expr rfl rfl rfl rfl rfl rfl rfl _ c3
  exact logic_fn x0 x1 x2 x3

theorem evalLogic_holds : Rows.EvalLogicSaid := evalLogic_of evalLogic_data
#print axioms evalLogic_holds
end Go.Proofs.Ytaifpecinbjgcaa

