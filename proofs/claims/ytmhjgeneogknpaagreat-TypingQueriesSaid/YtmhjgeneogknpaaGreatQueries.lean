/- TypingQueries: on every input the law's function returns true, and the input reads as it did. Without conditions. -/
import Derived.Test.YtmhjgeneogknpaaGreatQ9
import Derived.Test.YtmhjgeneogknpaaGreatRows
namespace Go.Proofs.YtmhjgeneogknpaaGreat
open Go.Ab Go.Tb
abbrev typingQueriesGs : List Nat := [22, 64, 9, 62, 23, 54, 26, 60, 83, 28, 3, 49, 47, 37, 24, 31, 25, 29, 32, 68, 33, 34, 59, 35, 74, 4]
theorem typingQueries_own : ownKnob Tryz.prog.godebug = none := by kernel_rfl
theorem typingQueries_laidOut : laidOutB Tryz.prog = true := by kernel_rfl
set_option maxRecDepth 100000 in
theorem typingQueries_lifted (hd : ∀ xs, ConfA tab [22, 49] xs → Does Tryz.prog 4 xs (.d (.v (.bool true))) 0) (os : Os) (started : os.Started) (H : Type) (enc : TypeId × Value → H) :
    ReturnsInHanded {} Tryz.checked os 4 .any (Rows.typingQueriesSpec.pre6 enc Tryz.prog Tryz.f4 Rows.typingQueriesRow.domain false) (Rows.typingQueriesSpec.post enc Tryz.prog Tryz.f4 false true false false) := by
  refine returnsInHanded_of_change (C := Tryz.checked) typingQueries_own started (by kernel_rfl) Tryz.func4
    (ChangeSpec.witness6 (enc := enc) (C := Tryz.checked) false ⟨#[], #[.slice none 0 0, .agg #[.string ⟨#[]⟩, .slice none 0 0]], []⟩ 8 (by kernel_rfl) (by kernel_rfl) (by kernel_rfl) (by kernel_rfl)) ?_
  intro W base args ds gs before hval hW _ _
  refine law_contract tab (gs := typingQueriesGs) (tb := 4) (by kernel_rfl) ?_ typingQueries_laidOut ?_ (by kernel_rfl) Tryz.underlying4 rfl ?_ ?_ W base args ds gs before hval hW
  · intro t ht
    have e : Tryz.f4.params.toList = [22, 49] := by kernel_rfl
    rw [e] at ht
    have hall : ([22, 49] : List Nat).all (fun t => typingQueriesGs.contains t) = true := by decide
    have := List.all_eq_true.1 hall t ht
    simpa using this
  · intro t ht
    have e : Tryz.f4.params.toList = [22, 49] := by kernel_rfl
    rw [e] at ht
    have hall : ([22, 49] : List Nat).all (fun t => Tryz.prog.readableRec t && decide (t < Tryz.prog.types.size)) = true := by kernel_rfl
    have := List.all_eq_true.1 hall t ht
    simpa using this
  · intro ds hlen
    have e : Tryz.f4.params.size = 2 := by kernel_rfl
    rw [e] at hlen
    match ds, hlen with
    | [d1, d2], _ => rfl
  · intro xs h
    have e : Tryz.f4.params.toList = [22, 49] := by kernel_rfl
    rw [e] at h
    exact hd xs h

theorem typingQueries_of (hd : ∀ xs, ConfA tab [22, 49] xs → Does Tryz.prog 4 xs (.d (.v (.bool true))) 0) : Rows.TypingQueriesSaid :=
  OpenClaim.holds_of_wide 4 Tryz.f4 rfl rfl rfl rfl rfl rfl rfl ⟨rfl, rfl, rfl, rfl, rfl⟩ rfl rfl rfl rfl rfl (by kernel_rfl) Tryz.func4 (by kernel_rfl)
    (of_decide_eq_true (by kernel_rfl)) (by unfold Func.isWrapper; first | (rw [if_pos (by decide +kernel)]; kernel_rfl) | (rw [if_neg (by decide +kernel)]; exact ⟨rfl, rfl⟩))
    (fun os started H enc _ => typingQueries_lifted hd os started H enc)

theorem typingQueries_data : ∀ xs, ConfA tab [22, 49] xs → Does Tryz.prog 4 xs (.d (.v (.bool true))) 0 := by
  intro xs h
  obtain ⟨l0, r0, rfl, c0, h⟩ := h.inv
  obtain ⟨l1, r1, rfl, c1, h⟩ := h.inv
  have := h.inv0
  subst this
  obtain ⟨x0, rfl⟩ := conf_sl c0 rfl (fun x hx => conf_nmd hx rfl rfl rfl rfl rfl rfl rfl rfl rfl rfl)
  obtain ⟨x1, rfl⟩ := conf_query c1 rfl rfl rfl rfl rfl rfl rfl rfl rfl rfl rfl rfl rfl rfl rfl rfl rfl rfl rfl
  exact queries_fn x0 x1

theorem typingQueries_holds : Rows.TypingQueriesSaid := typingQueries_of typingQueries_data
#print axioms typingQueries_holds
end Go.Proofs.YtmhjgeneogknpaaGreat

