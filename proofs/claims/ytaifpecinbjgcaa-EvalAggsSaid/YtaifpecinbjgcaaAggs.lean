/- EvalAggs: on every input the law's function returns true, and the input reads as it did. Without conditions. -/
import Derived.HandedShaped
import Derived.Test.YtaifpecinbjgcaaQ6
import Derived.Test.YtaifpecinbjgcaaRows
namespace Go.Proofs.Ytaifpecinbjgcaa
open Go.Ab Go.Tb
abbrev evalAggsGs : List Nat := [9, 23, 27, 25, 3]
theorem evalAggs_own : ownKnob Try.prog.godebug = none := by kernel_rfl
theorem evalAggs_laidOut : laidOutB Try.prog = true := by kernel_rfl
set_option maxRecDepth 100000 in
theorem evalAggs_lifted (hd : ∀ xs, ConfA tab [9, 23] xs → Does Try.prog 6 xs (.d (.v (.bool true))) 0) (os : Os) (started : os.Started) (H : Type) (enc : TypeId × Value → H) :
    ReturnsInHanded {} Try.checked os 6 .any (Rows.evalAggsSpec.pre6 enc Try.prog Try.f6 Rows.evalAggsRow.domain false) (Rows.evalAggsSpec.post enc Try.prog Try.f6 false true false false) := by
  refine returnsInHanded_of_change_shaped (C := Try.checked) evalAggs_own started (by kernel_rfl) Try.func6
    (ChangeSpec.witness6 (enc := enc) (C := Try.checked) false ⟨#[], #[.string ⟨#[]⟩, .slice none 0 0], []⟩ 8 (by kernel_rfl) (by kernel_rfl) (by kernel_rfl) (by kernel_rfl)) ?_
  intro W base args ds gs before hval hW _ _ hshape _
  refine law_contract tab (gs := evalAggsGs) (tb := 4) (by kernel_rfl) ?_ evalAggs_laidOut ?_ (by kernel_rfl) Try.underlying4 rfl ?_ ?_ W hshape base args ds gs before hval hW
  · intro t ht
    have e : Try.f6.params.toList = [9, 23] := by kernel_rfl
    rw [e] at ht
    have hall : ([9, 23] : List Nat).all (fun t => evalAggsGs.contains t) = true := by decide
    have := List.all_eq_true.1 hall t ht
    simpa using this
  · intro t ht
    have e : Try.f6.params.toList = [9, 23] := by kernel_rfl
    rw [e] at ht
    have hall : ([9, 23] : List Nat).all (fun t => Try.prog.readableRec t && decide (t < Try.prog.types.size)) = true := by kernel_rfl
    have := List.all_eq_true.1 hall t ht
    simpa using this
  · intro ds hlen
    have e : Try.f6.params.size = 2 := by kernel_rfl
    rw [e] at hlen
    match ds, hlen with
    | [d1, d2], _ => rfl
  · intro xs h
    have e : Try.f6.params.toList = [9, 23] := by kernel_rfl
    rw [e] at h
    exact hd xs h

theorem evalAggs_of (hd : ∀ xs, ConfA tab [9, 23] xs → Does Try.prog 6 xs (.d (.v (.bool true))) 0) : Rows.EvalAggsSaid :=
  OpenClaim.holds_of_wide 6 Try.f6 rfl rfl rfl rfl rfl rfl rfl ⟨rfl, rfl, rfl, rfl, rfl⟩ rfl rfl rfl rfl rfl (by kernel_rfl) Try.func6 (by kernel_rfl)
    (of_decide_eq_true (by kernel_rfl)) (by unfold Func.isWrapper; first | (rw [if_pos (by decide +kernel)]; kernel_rfl) | (rw [if_neg (by decide +kernel)]; exact ⟨rfl, rfl⟩))
    (fun os started H enc _ => evalAggs_lifted hd os started H enc)

theorem evalAggs_data : ∀ xs, ConfA tab [9, 23] xs → Does Try.prog 6 xs (.d (.v (.bool true))) 0 := by
  intro xs h
  obtain ⟨l0, r0, rfl, c0, h⟩ := h.inv
  obtain ⟨l1, r1, rfl, c1, h⟩ := h.inv
  have := h.inv0
  subst this
  obtain ⟨x0, rfl⟩ := conf_str c0 rfl
  obtain ⟨x1, rfl⟩ := conf_sl c1 rfl (fun x hx => conf_val hx rfl rfl rfl rfl)
  exact aggs_fn x0 x1

theorem evalAggs_holds : Rows.EvalAggsSaid := evalAggs_of evalAggs_data
#print axioms evalAggs_holds
end Go.Proofs.Ytaifpecinbjgcaa

