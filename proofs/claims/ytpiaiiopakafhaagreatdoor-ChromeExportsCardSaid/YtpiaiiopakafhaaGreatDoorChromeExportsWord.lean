/- ChromeExports: on every input the law's function returns true, and the input reads as it did. Conditions: the listed package-level variables hold what the program's text lays (the card ties them). -/
import Derived.SevenTiedAt
import Derived.Test.YtpiaiiopakafhaaGreatDoorCards
import Derived.Test.YtpiaiiopakafhaaGreatDoorTie
import Derived.Test.YtpiaiiopakafhaaGreatDoorQ6
namespace Go.Proofs.YtpiaiiopakafhaaGreatDoor
open Go.Ab Go.Tb
abbrev lU : List Nat := [30, 27, 23, 56, 3, 9, 24, 59, 25, 97, 95, 28, 61, 57, 50, 48, 43]
theorem tz : ownKnob Tryz.prog.godebug = none := by kernel_rfl
theorem pY : laidOutB Tryz.prog = true := by kernel_rfl
set_option maxRecDepth 100000 in
theorem rn (hd : ∀ xs, kv aY [30] xs → bm Tryz.prog 4 xs (.d (.v (.bool true))) 0) (os : Os) (started : os.Started) (H : Type) (enc : TypeId × Value → H) :
    ReturnsInHanded {} Tryz.checked os 4 .any (fun w args => (Rows.chromeExportsSpec.pre enc Tryz.prog Tryz.f4 Rows.chromeExportsRow.domain false w args ∧ laidMet Tryz.prog Rows.chromeExportsRow.laid w) ∧ sizedMet enc Tryz.prog Tryz.f4 (OpenSpec.ofChange Rows.chromeExportsSpec) false w args) (Rows.chromeExportsSpec.post enc Tryz.prog Tryz.f4 false true false false) := by
  refine oP (C := Tryz.checked) (X := fun w _ => laidMet Tryz.prog Rows.chromeExportsRow.laid w) (fun _ _ _ hh h => h.of_heap hh) tz started (by kernel_rfl) Tryz.func4
    (yq (enc := enc) (C := Tryz.checked) (laid := Rows.chromeExportsRow.laid) false #[.agg #[.slice none 0 0, .slice none 0 0, .slice none 0 0, .slice none 0 0]] 8 (by kernel_rfl) (by kernel_rfl) (by kernel_rfl) (by kernel_rfl) (by kernel_rfl) (by kernel_rfl) (by kernel_rfl)) ?_
  intro W base args ds gs before hval hW hshape hL hz
  refine yz aY (gs := lU) (tb := 4) (by kernel_rfl) ?_ ?_ pY ?_ (by kernel_rfl) Tryz.underlying4 rfl ?_ ?_ W ⟨hshape, Lz W hL⟩ base args ds gs before hval hW (D2 rfl hW hz)
  · intro t ht
    have hall : lU.all (fun t => Nat.blt 0 (Tryz.prog.bytesOf t)) = true := by kernel_rfl
    have := List.all_eq_true.1 hall t ht
    simpa using this
  · intro t ht
    have e : Tryz.f4.params.toList = [30] := by kernel_rfl
    rw [e] at ht
    have hall : ([30] : List Nat).all (fun t => lU.contains t) = true := by decide
    have := List.all_eq_true.1 hall t ht
    simpa using this
  · intro t ht
    have e : Tryz.f4.params.toList = [30] := by kernel_rfl
    rw [e] at ht
    have hall : ([30] : List Nat).all (fun t => Tryz.prog.readableRec t && decide (t < Tryz.prog.types.size)) = true := by kernel_rfl
    have := List.all_eq_true.1 hall t ht
    simpa using this
  · intro ds hlen
    have e : Tryz.f4.params.size = 1 := by kernel_rfl
    rw [e] at hlen
    match ds, hlen with
    | [d1], _ => rfl
  · intro xs h
    have e : Tryz.f4.params.toList = [30] := by kernel_rfl
    rw [e] at h
    exact hd xs h

theorem uu (hd : ∀ xs, kv aY [30] xs → bm Tryz.prog 4 xs (.d (.v (.bool true))) 0) : Rows.ChromeExportsSaid :=
  OpenClaim.holds_of_wide 4 Tryz.f4 rfl rfl rfl rfl rfl rfl rfl ⟨rfl, rfl, rfl, rfl, rfl⟩ rfl rfl rfl rfl rfl (by kernel_rfl) Tryz.func4 (by kernel_rfl)
    (of_decide_eq_true (by kernel_rfl)) (by unfold Func.isWrapper; first | (rw [if_pos (by decide +kernel)]; kernel_rfl) | (rw [if_neg (by decide +kernel)]; exact ⟨rfl, rfl⟩))
    (fun os started H enc _ => rn hd os started H enc)

theorem rG : ∀ xs, kv aY [30] xs → bm Tryz.prog 4 xs (.d (.v (.bool true))) 0 := by
  intro xs h
  obtain ⟨l0, r0, rfl, c0, h⟩ := h.inv
  have := h.LC
  subst this
  obtain ⟨x0, rfl, hu0⟩ := FP c0 rfl rfl rfl rfl rfl rfl rfl rfl rfl rfl rfl rfl (fun y hy => CV hy rfl rfl rfl rfl rfl) rfl rfl
  exact zK x0 hu0

theorem rE : Rows.ChromeExportsSaid := uu rG
theorem chromeExports_card : Rows.ChromeExportsCardSaid :=
  Claim7.holds_tied_plain_at .later [] [.data, .data, .data, .sentinel, .sentinel] true (true, "1dae4bde635f40ea12784293ed2cd6d80f558439a319b6874bc2c370dcbb9741") true
    rE (fun _ h => by cases h) (by kernel_rfl) (fun _ h => by cases h) chromeExports_row_tie rfl ⟨rfl, rfl⟩ (by kernel_rfl) rfl
    (fun f fn hf hfn => by
      obtain rfl : f = 4 := Option.some.inj ((show Tryz.prog.funcNamed "tracebook/tracebooklaw22.ChromeExports" = some 4 by kernel_rfl).symm.trans hf) |>.symm
      obtain rfl : fn = Tryz.f4 := (Option.some.inj (Tryz.func4.symm.trans hfn)).symm
      exact ⟨by kernel_rfl, fun j t ht => by
        have e : Tryz.f4.params.toList = [30] := by kernel_rfl
        have hm : t ∈ ([30] : List Nat) := by rw [← e]; exact Array.mem_toList_iff.2 (Array.mem_of_getElem? ht)
        have hall : (([30] : List Nat).all fun u => !Tryz.prog.wantsStandIn u) = true := by kernel_rfl
        exact (show Tryz.prog.wantsStandIn t = false by simpa using List.all_eq_true.1 hall t hm)⟩)
    (by kernel_rfl)
#print axioms chromeExports_card
end Go.Proofs.YtpiaiiopakafhaaGreatDoor
