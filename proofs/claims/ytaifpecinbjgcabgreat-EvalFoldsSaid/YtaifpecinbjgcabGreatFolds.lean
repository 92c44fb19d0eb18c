/- EvalFolds: on every input the law's function returns true, and the input reads as it did. Without conditions. -/
import Derived.HandedShaped
import Derived.Test.YtaifpecinbjgcabGreatQ6
import Derived.Test.YtaifpecinbjgcabGreatRows
namespace Go.Proofs.YtaifpecinbjgcabGreat
open Go.Ab Go.Tb
abbrev evalFoldsGs : List Nat := [22, 42, 9, 25, 23, 27, 3, 30, 24, 28]
theorem evalFolds_own : ownKnob Tryz.prog.godebug = none := by kernel_rfl
theorem evalFolds_laidOut : laidOutB Tryz.prog = true := by kernel_rfl
set_option maxRecDepth 100000 in
theorem evalFolds_lifted (hd : ∀ xs, ConfA tab [22, 23, 30] xs → Does Tryz.prog 3 xs (.d (.v (.bool true))) 0) (os : Os) (started : os.Started) (H : Type) (enc : TypeId × Value → H) :
    ReturnsInHanded {} Tryz.checked os 3 .any (Rows.evalFoldsSpec.pre6 enc Tryz.prog Tryz.f3 Rows.evalFoldsRow.domain false) (Rows.evalFoldsSpec.post enc Tryz.prog Tryz.f3 false true false false) := by
  refine returnsInHanded_of_change_shaped (C := Tryz.checked) evalFolds_own started (by kernel_rfl) Tryz.func3
    (ChangeSpec.witness6 (enc := enc) (C := Tryz.checked) false ⟨#[], #[.slice none 0 0, .slice none 0 0, .agg #[.int .i64 0, .string ⟨#[]⟩, .int .i64 0, .int .i64 0, .string ⟨#[]⟩, .slice none 0 0]], []⟩ 8 (by kernel_rfl) (by kernel_rfl) (by kernel_rfl) (by kernel_rfl)) ?_
  intro W base args ds gs before hval hW _ _ hshape _
  refine law_contract tab (gs := evalFoldsGs) (tb := 4) (by kernel_rfl) ?_ evalFolds_laidOut ?_ (by kernel_rfl) Tryz.underlying4 rfl ?_ ?_ W hshape base args ds gs before hval hW
  · intro t ht
    have e : Tryz.f3.params.toList = [22, 23, 30] := by kernel_rfl
    rw [e] at ht
    have hall : ([22, 23, 30] : List Nat).all (fun t => evalFoldsGs.contains t) = true := by decide
    have := List.all_eq_true.1 hall t ht
    simpa using this
  · intro t ht
    have e : Tryz.f3.params.toList = [22, 23, 30] := by kernel_rfl
    rw [e] at ht
    have hall : ([22, 23, 30] : List Nat).all (fun t => Tryz.prog.readableRec t && decide (t < Tryz.prog.types.size)) = true := by kernel_rfl
    have := List.all_eq_true.1 hall t ht
    simpa using this
  · intro ds hlen
    have e : Tryz.f3.params.size = 3 := by kernel_rfl
    rw [e] at hlen
    match ds, hlen with
    | [d1, d2, d3], _ => rfl
  · intro xs h
    have e : Tryz.f3.params.toList = [22, 23, 30] := by kernel_rfl
    rw [e] at h
    exact hd xs h

theorem evalFolds_of (hd : ∀ xs, ConfA tab [22, 23, 30] xs → Does Tryz.prog 3 xs (.d (.v (.bool true))) 0) : Rows.EvalFoldsSaid :=
  OpenClaim.holds_of_wide 3 Tryz.f3 rfl rfl rfl rfl rfl rfl rfl ⟨rfl, rfl, rfl, rfl, rfl⟩ rfl rfl rfl rfl rfl (by kernel_rfl) Tryz.func3 (by kernel_rfl)
    (of_decide_eq_true (by kernel_rfl)) (by unfold Func.isWrapper; first | (rw [if_pos (by decide +kernel)]; kernel_rfl) | (rw [if_neg (by decide +kernel)]; exact ⟨rfl, rfl⟩))
    (fun os started H enc _ => evalFolds_lifted hd os started H enc)

theorem evalFolds_data : ∀ xs, ConfA tab [22, 23, 30] xs → Does Tryz.prog 3 xs (.d (.v (.bool true))) 0 := by
  intro xs h
  obtain ⟨l0, r0, rfl, c0, h⟩ := h.inv
  obtain ⟨l1, r1, rfl, c1, h⟩ := h.inv
  obtain ⟨l2, r2, rfl, c2, h⟩ := h.inv
  have := h.inv0
  subst this
  obtain ⟨x0, rfl⟩ := conf_sl c0 rfl (fun x hx => conf_col hx rfl rfl rfl)
  obtain ⟨x1, rfl⟩ := conf_sl c1 rfl (fun x hx => conf_val hx rfl rfl rfl rfl)
  obtain ⟨x2, rfl⟩ := conf_expr rfl rfl rfl rfl rfl rfl rfl _ c2
  exact folds_fn x0 x1 x2

theorem evalFolds_holds : Rows.EvalFoldsSaid := evalFolds_of evalFolds_data
#print axioms evalFolds_holds
end Go.Proofs.YtaifpecinbjgcabGreat

