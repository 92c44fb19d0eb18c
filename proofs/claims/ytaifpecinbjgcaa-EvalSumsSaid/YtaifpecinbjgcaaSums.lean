/- EvalSums: on every input the law's function returns true, and the input reads as it did. Without conditions. -/
import Derived.HandedShaped
import Derived.Test.YtaifpecinbjgcaaQ6
import Derived.Test.YtaifpecinbjgcaaRows
namespace Go.Proofs.Ytaifpecinbjgcaa
open Go.Ab Go.Tb
abbrev evalSumsGs : List Nat := [3]
theorem evalSums_own : ownKnob Try.prog.godebug = none := by kernel_rfl
theorem evalSums_laidOut : laidOutB Try.prog = true := by kernel_rfl
set_option maxRecDepth 100000 in
theorem evalSums_lifted (hd : ∀ xs, ConfA tab [3, 3] xs → Does Try.prog 7 xs (.d (.v (.bool true))) 0) (os : Os) (started : os.Started) (H : Type) (enc : TypeId × Value → H) :
    ReturnsInHanded {} Try.checked os 7 .any (Rows.evalSumsSpec.pre6 enc Try.prog Try.f7 Rows.evalSumsRow.domain false) (Rows.evalSumsSpec.post enc Try.prog Try.f7 false true false false) := by
  refine returnsInHanded_of_change_shaped (C := Try.checked) evalSums_own started (by kernel_rfl) Try.func7
    (ChangeSpec.witness6 (enc := enc) (C := Try.checked) false ⟨#[], #[.int .i64 0, .int .i64 0], []⟩ 8 (by kernel_rfl) (by kernel_rfl) (by kernel_rfl) (by kernel_rfl)) ?_
  intro W base args ds gs before hval hW _ _ hshape _
  refine law_contract tab (gs := evalSumsGs) (tb := 4) (by kernel_rfl) ?_ evalSums_laidOut ?_ (by kernel_rfl) Try.underlying4 rfl ?_ ?_ W hshape base args ds gs before hval hW
  · intro t ht
    have e : Try.f7.params.toList = [3, 3] := by kernel_rfl
    rw [e] at ht
    have hall : ([3, 3] : List Nat).all (fun t => evalSumsGs.contains t) = true := by decide
    have := List.all_eq_true.1 hall t ht
    simpa using this
  · intro t ht
    have e : Try.f7.params.toList = [3, 3] := by kernel_rfl
    rw [e] at ht
    have hall : ([3, 3] : List Nat).all (fun t => Try.prog.readableRec t && decide (t < Try.prog.types.size)) = true := by kernel_rfl
    have := List.all_eq_true.1 hall t ht
    simpa using this
  · intro ds hlen
    have e : Try.f7.params.size = 2 := by kernel_rfl
    rw [e] at hlen
    match ds, hlen with
    | [d1, d2], _ => rfl
  · intro xs h
    have e : Try.f7.params.toList = [3, 3] := by kernel_rfl
    rw [e] at h
    exact hd xs h

theorem evalSums_of (hd : ∀ xs, ConfA tab [3, 3] xs → Does Try.prog 7 xs (.d (.v (.bool true))) 0) : Rows.EvalSumsSaid :=
  OpenClaim.holds_of_wide 7 Try.f7 rfl rfl rfl rfl rfl rfl rfl ⟨rfl, rfl, rfl, rfl, rfl⟩ rfl rfl rfl rfl rfl (by kernel_rfl) Try.func7 (by kernel_rfl)
    (of_decide_eq_true (by kernel_rfl)) (by unfold Func.isWrapper; first | (rw [if_pos (by decide +kernel)]; kernel_rfl) | (rw [if_neg (by decide +kernel)]; exact ⟨rfl, rfl⟩))
    (fun os started H enc _ => evalSums_lifted hd os started H enc)

theorem evalSums_data : ∀ xs, ConfA tab [3, 3] xs → Does Try.prog 7 xs (.d (.v (.bool true))) 0 := by
  intro xs h
  obtain ⟨l0, r0, rfl, c0, h⟩ := h.inv
  obtain ⟨l1, r1, rfl, c1, h⟩ := h.inv
  have := h.inv0
  subst this
  obtain ⟨x0, rfl⟩ := conf_int c0 rfl
  obtain ⟨x1, rfl⟩ := conf_int c1 rfl
  exact sums_fn x0 x1

theorem evalSums_holds : Rows.EvalSumsSaid := evalSums_of evalSums_data
#print axioms evalSums_holds
end Go.Proofs.Ytaifpecinbjgcaa

