/- FtraceLong: on every input the law's function returns true, and the input reads as it did. Conditions: the listed package-level variables hold what the program's text lays (the card ties them). -/
import Derived.SevenTiedAt
import Derived.Test.YtoojafbicmdclaaDoorCards
import Derived.Test.YtoojafbicmdclaaDoorTie
import Derived.Test.YtoojafbicmdclaaDoorQ5
namespace Go.Proofs.YtoojafbicmdclaaDoor
open Go.Ab Go.Tb
abbrev ftraceLongGs : List Nat := [3]
theorem ftraceLong_own : ownKnob Tryd.prog.godebug = none := by kernel_rfl
theorem ftraceLong_laidOut : laidOutB Tryd.prog = true := by kernel_rfl
set_option maxRecDepth 100000 in
theorem ftraceLong_lifted (hd : ∀ xs, ConfA tab [3] xs → Does Tryd.prog 7 xs (.d (.v (.bool true))) 0) (os : Os) (started : os.Started) (H : Type) (enc : TypeId × Value → H) :
    ReturnsInHanded {} Tryd.checked os 7 .any (fun w args => (Rows.ftraceLongSpec.pre enc Tryd.prog Tryd.f7 Rows.ftraceLongRow.domain false w args ∧ laidMet Tryd.prog Rows.ftraceLongRow.laid w) ∧ sizedMet enc Tryd.prog Tryd.f7 (OpenSpec.ofChange Rows.ftraceLongSpec) false w args) (Rows.ftraceLongSpec.post enc Tryd.prog Tryd.f7 false true false false) := by
  refine returnsInHanded_of_laid (C := Tryd.checked) (X := fun w _ => laidMet Tryd.prog Rows.ftraceLongRow.laid w) (fun _ _ _ hh h => h.of_heap hh) ftraceLong_own started (by kernel_rfl) Tryd.func7
    (witness_laid (enc := enc) (C := Tryd.checked) (laid := Rows.ftraceLongRow.laid) false #[.int .i64 0] 8 (by kernel_rfl) (by kernel_rfl) (by kernel_rfl) (by kernel_rfl) (by kernel_rfl) (by kernel_rfl) (by kernel_rfl)) ?_
  intro W base args ds gs before hval hW hshape hL
  refine law_contract tab (gs := ftraceLongGs) (tb := 4) (by kernel_rfl) ?_ ftraceLong_laidOut ?_ (by kernel_rfl) Tryd.underlying4 rfl ?_ ?_ W ⟨hshape, lmet W hL⟩ base args ds gs before hval hW
  · intro t ht
    have e : Tryd.f7.params.toList = [3] := by kernel_rfl
    rw [e] at ht
    have hall : ([3] : List Nat).all (fun t => ftraceLongGs.contains t) = true := by decide
    have := List.all_eq_true.1 hall t ht
    simpa using this
  · intro t ht
    have e : Tryd.f7.params.toList = [3] := by kernel_rfl
    rw [e] at ht
    have hall : ([3] : List Nat).all (fun t => Tryd.prog.readableRec t && decide (t < Tryd.prog.types.size)) = true := by kernel_rfl
    have := List.all_eq_true.1 hall t ht
    simpa using this
  · intro ds hlen
    have e : Tryd.f7.params.size = 1 := by kernel_rfl
    rw [e] at hlen
    match ds, hlen with
    | [d1], _ => rfl
  · intro xs h
    have e : Tryd.f7.params.toList = [3] := by kernel_rfl
    rw [e] at h
    exact hd xs h

theorem ftraceLong_of (hd : ∀ xs, ConfA tab [3] xs → Does Tryd.prog 7 xs (.d (.v (.bool true))) 0) : Rows.FtraceLongSaid :=
  OpenClaim.holds_of_wide 7 Tryd.f7 rfl rfl rfl rfl rfl rfl rfl ⟨rfl, rfl, rfl, rfl, rfl⟩ rfl rfl rfl rfl rfl (by kernel_rfl) Tryd.func7 (by kernel_rfl)
    (of_decide_eq_true (by kernel_rfl)) (by unfold Func.isWrapper; first | (rw [if_pos (by decide +kernel)]; kernel_rfl) | (rw [if_neg (by decide +kernel)]; exact ⟨rfl, rfl⟩))
    (fun os started H enc _ => ftraceLong_lifted hd os started H enc)

theorem ftraceLong_data : ∀ xs, ConfA tab [3] xs → Does Tryd.prog 7 xs (.d (.v (.bool true))) 0 := by
  intro xs h
  obtain ⟨l0, r0, rfl, c0, h⟩ := h.inv
  have := h.inv0
  subst this
  obtain ⟨x0, rfl⟩ := conf_int c0 rfl
  exact flong_fn x0

theorem ftraceLong_holds : Rows.FtraceLongSaid := ftraceLong_of ftraceLong_data
theorem ftraceLong_card : Rows.FtraceLongCardSaid :=
  Claim7.holds_tied_plain_at .later [] [.data, .data, .data, .data, .sentinel, .sentinel, .pinned] true (true, "5fbe8582c8e33cff824125d763096d7c15d6a05ac8f9bd9fd8bcc326d603db89") true
    ftraceLong_holds (fun _ h => by cases h) (by kernel_rfl) (fun _ h => by cases h) ftraceLong_row_tie rfl ⟨rfl, rfl⟩ (by kernel_rfl) rfl
    (fun f fn hf hfn => by
      obtain rfl : f = 7 := Option.some.inj ((show Tryd.prog.funcNamed "tracebook/tracebooklaw23.FtraceLong" = some 7 by kernel_rfl).symm.trans hf) |>.symm
      obtain rfl : fn = Tryd.f7 := (Option.some.inj (Tryd.func7.symm.trans hfn)).symm
      exact ⟨by kernel_rfl, fun j t ht => by
        have e : Tryd.f7.params.toList = [3] := by kernel_rfl
        have hm : t ∈ ([3] : List Nat) := by rw [← e]; exact Array.mem_toList_iff.2 (Array.mem_of_getElem? ht)
        have hall : (([3] : List Nat).all fun u => !Tryd.prog.wantsStandIn u) = true := by kernel_rfl
        exact (show Tryd.prog.wantsStandIn t = false by simpa using List.all_eq_true.1 hall t hm)⟩)
    (by kernel_rfl)
#print axioms ftraceLong_card
end Go.Proofs.YtoojafbicmdclaaDoor
