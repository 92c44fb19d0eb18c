/- TypingNulls: on every input the law's function returns true, and the input reads as it did. Without conditions. -/
import Derived.HandedShaped
import Derived.Test.YtlmgnlhagpoggaaQ4
import Derived.Test.YtlmgnlhagpoggaaRows
namespace Go.Proofs.Ytlmgnlhagpoggaa
open Go.Ab Go.Tb
abbrev typingNullsGs : List Nat := [22, 38, 9, 24, 29, 23, 26, 3, 27, 5]
theorem typingNulls_own : ownKnob Try.prog.godebug = none := by kernel_rfl
theorem typingNulls_laidOut : laidOutB Try.prog = true := by kernel_rfl
set_option maxRecDepth 100000 in
theorem typingNulls_lifted (hd : ∀ xs, ConfA tab [22, 29, 5] xs → Does Try.prog 3 xs (.d (.v (.bool true))) 0) (os : Os) (started : os.Started) (H : Type) (enc : TypeId × Value → H) :
    ReturnsInHanded {} Try.checked os 3 .any (Rows.typingNullsSpec.pre6 enc Try.prog Try.f3 Rows.typingNullsRow.domain false) (Rows.typingNullsSpec.post enc Try.prog Try.f3 false true false false) := by
  refine returnsInHanded_of_change_shaped (C := Try.checked) typingNulls_own started (by kernel_rfl) Try.func3
    (ChangeSpec.witness6 (enc := enc) (C := Try.checked) false ⟨#[], #[.slice none 0 0, .agg #[.int .i64 0, .string ⟨#[]⟩, .int .i64 0, .int .i64 0, .string ⟨#[]⟩, .slice none 0 0], .int .u8 0], []⟩ 8 (by kernel_rfl) (by kernel_rfl) (by kernel_rfl) (by kernel_rfl)) ?_
  intro W base args ds gs before hval hW _ _ hshape _
  refine law_contract tab (gs := typingNullsGs) (tb := 4) (by kernel_rfl) ?_ typingNulls_laidOut ?_ (by kernel_rfl) Try.underlying4 rfl ?_ ?_ W ⟨hshape, trivial⟩ base args ds gs before hval hW
  · intro t ht
    have e : Try.f3.params.toList = [22, 29, 5] := by kernel_rfl
    rw [e] at ht
    have hall : ([22, 29, 5] : List Nat).all (fun t => typingNullsGs.contains t) = true := by decide
    have := List.all_eq_true.1 hall t ht
    simpa using this
  · intro t ht
    have e : Try.f3.params.toList = [22, 29, 5] := by kernel_rfl
    rw [e] at ht
    have hall : ([22, 29, 5] : List Nat).all (fun t => Try.prog.readableRec t && decide (t < Try.prog.types.size)) = true := by kernel_rfl
    have := List.all_eq_true.1 hall t ht
    simpa using this
  · intro ds hlen
    have e : Try.f3.params.size = 3 := by kernel_rfl
    rw [e] at hlen
    match ds, hlen with
    | [d1, d2, d3], _ => rfl
  · intro xs h
    have e : Try.f3.params.toList = [22, 29, 5] := by kernel_rfl
    rw [e] at h
    exact hd xs h

theorem typingNulls_of (hd : ∀ xs, ConfA tab [22, 29, 5] xs → Does Try.prog 3 xs (.d (.v (.bool true))) 0) : Rows.TypingNullsSaid :=
  OpenClaim.holds_of_wide 3 Try.f3 rfl rfl rfl rfl rfl rfl rfl ⟨rfl, rfl, rfl, rfl, rfl⟩ rfl rfl rfl rfl rfl (by kernel_rfl) Try.func3 (by kernel_rfl)
    (of_decide_eq_true (by kernel_rfl)) (by unfold Func.isWrapper; first | (rw [if_pos (by decide +kernel)]; kernel_rfl) | (rw [if_neg (by decide +kernel)]; exact ⟨rfl, rfl⟩))
    (fun os started H enc _ => typingNulls_lifted hd os started H enc)

theorem typingNulls_data : ∀ xs, ConfA tab [22, 29, 5] xs → Does Try.prog 3 xs (.d (.v (.bool true))) 0 := by
  intro xs h
  obtain ⟨l0, r0, rfl, c0, h⟩ := h.inv
  obtain ⟨l1, r1, rfl, c1, h⟩ := h.inv
  obtain ⟨l2, r2, rfl, c2, h⟩ := h.inv
  have := h.inv0
  subst this
  obtain ⟨x0, rfl⟩ := conf_sl c0 rfl (fun x hx => conf_col hx rfl rfl rfl)
  obtain ⟨x1, rfl⟩ := conf_expr rfl rfl rfl rfl rfl rfl rfl _ c1
  obtain ⟨x2, rfl, hu2⟩ := Conf.toInt c2 rfl
  exact nulls_fn x0 x1 x2 hu2

theorem typingNulls_holds : Rows.TypingNullsSaid := typingNulls_of typingNulls_data
#print axioms typingNulls_holds
end Go.Proofs.Ytlmgnlhagpoggaa

