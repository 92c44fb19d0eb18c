/- ChromeImports: on every input the law's function returns true, and the input reads as it did. Conditions: the listed package-level variables hold what the program's text lays (the card ties them). -/
import Derived.SevenTiedAt
import Derived.Test.YtpiaiiopakafhaaGreatDoorCards
import Derived.Test.YtpiaiiopakafhaaGreatDoorTie
import Derived.Test.YtpiaiiopakafhaaGreatDoorQ6
namespace Go.Proofs.YtpiaiiopakafhaaGreatDoor
open Go.Ab Go.Tb
abbrev pQ : List Nat := [9]
theorem tY : ownKnob Tryz.prog.godebug = none := by kernel_rfl
theorem qJ : laidOutB Tryz.prog = true := by kernel_rfl
set_option maxRecDepth 100000 in
theorem ra (hd : ∀ xs, kR aW [9] xs → bp Tryz.prog 3 xs (.d (.v (.bool true))) 0) (os : Os) (started : os.Started) (H : Type) (enc : TypeId × Value → H) :
    ReturnsInHanded {} Tryz.checked os 3 .any (fun w args => (Rows.chromeImportsSpec.pre enc Tryz.prog Tryz.f3 Rows.chromeImportsRow.domain false w args ∧ laidMet Tryz.prog Rows.chromeImportsRow.laid w) ∧ sizedMet enc Tryz.prog Tryz.f3 (OpenSpec.ofChange Rows.chromeImportsSpec) false w args) (Rows.chromeImportsSpec.post enc Tryz.prog Tryz.f3 false true false false) := by
  refine pk (C := Tryz.checked) (X := fun w _ => laidMet Tryz.prog Rows.chromeImportsRow.laid w) (fun _ _ _ hh h => h.of_heap hh) tY started (by kernel_rfl) Tryz.func3
    (y9 (enc := enc) (C := Tryz.checked) (laid := Rows.chromeImportsRow.laid) false #[.string ⟨#[]⟩] 8 (by kernel_rfl) (by kernel_rfl) (by kernel_rfl) (by kernel_rfl) (by kernel_rfl) (by kernel_rfl) (by kernel_rfl)) ?_
  intro W base args ds gs before hval hW hshape hL
  refine zj aW (gs := pQ) (tb := 4) (by kernel_rfl) ?_ qJ ?_ (by kernel_rfl) Tryz.underlying4 rfl ?_ ?_ W ⟨hshape, L2 W hL⟩ base args ds gs before hval hW
  · intro t ht
    have e : Tryz.f3.params.toList = [9] := by kernel_rfl
    rw [e] at ht
    have hall : ([9] : List Nat).all (fun t => pQ.contains t) = true := by decide
    have := List.all_eq_true.1 hall t ht
    simpa using this
  · intro t ht
    have e : Tryz.f3.params.toList = [9] := by kernel_rfl
    rw [e] at ht
    have hall : ([9] : List Nat).all (fun t => Tryz.prog.readableRec t && decide (t < Tryz.prog.types.size)) = true := by kernel_rfl
    have := List.all_eq_true.1 hall t ht
    simpa using this
  · intro ds hlen
    have e : Tryz.f3.params.size = 1 := by kernel_rfl
    rw [e] at hlen
    match ds, hlen with
    | [d1], _ => rfl
  · intro xs h
    have e : Tryz.f3.params.toList = [9] := by kernel_rfl
    rw [e] at h
    exact hd xs h

theorem u9 (hd : ∀ xs, kR aW [9] xs → bp Tryz.prog 3 xs (.d (.v (.bool true))) 0) : Rows.ChromeImportsSaid :=
  OpenClaim.holds_of_wide 3 Tryz.f3 rfl rfl rfl rfl rfl rfl rfl ⟨rfl, rfl, rfl, rfl, rfl⟩ rfl rfl rfl rfl rfl (by kernel_rfl) Tryz.func3 (by kernel_rfl)
    (of_decide_eq_true (by kernel_rfl)) (by unfold Func.isWrapper; first | (rw [if_pos (by decide +kernel)]; kernel_rfl) | (rw [if_neg (by decide +kernel)]; exact ⟨rfl, rfl⟩))
    (fun os started H enc _ => ra hd os started H enc)

theorem sO : ∀ xs, kR aW [9] xs → bp Tryz.prog 3 xs (.d (.v (.bool true))) 0 := by
  intro xs h
  obtain ⟨l0, r0, rfl, c0, h⟩ := h.inv
  have := h.L0
  subst this
  obtain ⟨x0, rfl⟩ := FV c0 rfl
  exact Ad x0

theorem rO : Rows.ChromeImportsSaid := u9 sO
theorem chromeImports_card : Rows.ChromeImportsCardSaid :=
  Claim7.holds_tied_plain_at .later [] [.data, .data, .data, .sentinel, .sentinel] true (true, "1dae4bde635f40ea12784293ed2cd6d80f558439a319b6874bc2c370dcbb9741") true
    rO (fun _ h => by cases h) (by kernel_rfl) (fun _ h => by cases h) chromeImports_row_tie rfl ⟨rfl, rfl⟩ (by kernel_rfl) rfl
    (fun f fn hf hfn => by
      obtain rfl : f = 3 := Option.some.inj ((show Tryz.prog.funcNamed "tracebook/tracebooklaw22.ChromeImports" = some 3 by kernel_rfl).symm.trans hf) |>.symm
      obtain rfl : fn = Tryz.f3 := (Option.some.inj (Tryz.func3.symm.trans hfn)).symm
      exact ⟨by kernel_rfl, fun j t ht => by
        have e : Tryz.f3.params.toList = [9] := by kernel_rfl
        have hm : t ∈ ([9] : List Nat) := by rw [← e]; exact Array.mem_toList_iff.2 (Array.mem_of_getElem? ht)
        have hall : (([9] : List Nat).all fun u => !Tryz.prog.wantsStandIn u) = true := by kernel_rfl
        exact (show Tryz.prog.wantsStandIn t = false by simpa using List.all_eq_true.1 hall t hm)⟩)
    (by kernel_rfl)
#print axioms chromeImports_card
end Go.Proofs.YtpiaiiopakafhaaGreatDoor
