/-
  No cell of these rows narrows 'for every input' (looked for: loops, veiled, ifaces, maps, wideKeys, modest, calm, conditions, laid).
  DERIVED. THE GIVEN ROWS OF THIS SEAT. 3 by the template 'for every input the law returns true; each argument reads behind the call as it read before'; 0 by the template 'total and deterministic' (their statements: YtjenenllmjlimaaGreatTotals.lean).
  GIVEN WITH THE SEED: the statements are not yours to turn. If you find one false, say at which input.
  Laid BY PROGRAM, IN A SANDBOX (cutbox-rows.mjs): the forced cells as the released guide's own fill.sh prints them over the translation 1ef2651f4738863f… (all of the seat's roots in one cut). By AI agents, Wed Nov 11 2026. No macro, syntax, notation, axiom, sorry.
-/
import Derived.Test.YtjenenllmjlimaaGreatChecked
import GoSem.Claim
import GoSem.ClaimJoined
import GoSem.ClaimMapViews
import Derived.JoinedTies
import Derived.KernelRfl
namespace Go.Proofs.YtjenenllmjlimaaGreat
/- THE CELL 'sum', in the pinned program and in every row, IS THE sha256 OF THE DUMP (.gsa) THAT YtjenenllmjlimaaGreatProg.lean LOADS. Nothing in Lean hashes anything: it is a label: what it is worth is what the hold of that sum in a sandbox is worth. -/
noncomputable def Tryz.pinned : Pinned := { name := "ytjenenllmjlimaagreat", sum := "1ef2651f4738863fec375c93e741f59959711c99450c49d543d0aedcde58e546", checked := Tryz.checked }
namespace Rows
def none {H : Type} : Left H := { results := [], args := [] }

/-- 'tracebooklaw41.TemporalOverlaps': WHATEVER THE INPUT: true; the input reads as it did. -/
def temporalOverlapsSpec : ChangeSpec := { name := "temporalOverlaps", fn := fun _ => fun
  | [d1, d2, d3] => { results := [.lit (.bool true)], args := [d1, d2, d3] }
  | _ => none }
def temporalOverlapsRow : OpenClaim := { program := "ytjenenllmjlimaagreat", sum := "1ef2651f4738863fec375c93e741f59959711c99450c49d543d0aedcde58e546", func := "tracebook/tracebooklaw41.TemporalOverlaps", spec := "temporalOverlaps", inPlace := ["internal/bytealg.IndexByteString"], unfollowed := true, recurses := true, apart := false }
def TemporalOverlapsSaid : Prop := temporalOverlapsRow.holds Tryz.pinned (OpenSpec.ofChange temporalOverlapsSpec)

/-- ITS FALSE NEIGHBOUR: 'it returns false'. Refute it at one input. -/
def temporalOverlapsWrong : ChangeSpec := { name := "temporalOverlaps", fn := fun _ => fun
  | [d1, d2, d3] => { results := [.lit (.bool false)], args := [d1, d2, d3] }
  | _ => none }
def TemporalOverlapsWrongFalsely : Prop := temporalOverlapsRow.holds Tryz.pinned (OpenSpec.ofChange temporalOverlapsWrong)

/-- 'tracebooklaw41.TemporalNearests': WHATEVER THE INPUT: true; the input reads as it did. -/
def temporalNearestsSpec : ChangeSpec := { name := "temporalNearests", fn := fun _ => fun
  | [d1, d2, d3] => { results := [.lit (.bool true)], args := [d1, d2, d3] }
  | _ => none }
def temporalNearestsRow : OpenClaim := { program := "ytjenenllmjlimaagreat", sum := "1ef2651f4738863fec375c93e741f59959711c99450c49d543d0aedcde58e546", func := "tracebook/tracebooklaw41.TemporalNearests", spec := "temporalNearests", inPlace := ["internal/bytealg.IndexByteString"], unfollowed := true, recurses := true, apart := false }
def TemporalNearestsSaid : Prop := temporalNearestsRow.holds Tryz.pinned (OpenSpec.ofChange temporalNearestsSpec)

/-- ITS FALSE NEIGHBOUR: 'it returns false'. Refute it at one input. -/
def temporalNearestsWrong : ChangeSpec := { name := "temporalNearests", fn := fun _ => fun
  | [d1, d2, d3] => { results := [.lit (.bool false)], args := [d1, d2, d3] }
  | _ => none }
def TemporalNearestsWrongFalsely : Prop := temporalNearestsRow.holds Tryz.pinned (OpenSpec.ofChange temporalNearestsWrong)

/-- 'tracebooklaw41.TemporalCoalesces': WHATEVER THE INPUT: true; the input reads as it did. -/
def temporalCoalescesSpec : ChangeSpec := { name := "temporalCoalesces", fn := fun _ => fun
  | [d1, d2] => { results := [.lit (.bool true)], args := [d1, d2] }
  | _ => none }
def temporalCoalescesRow : OpenClaim := { program := "ytjenenllmjlimaagreat", sum := "1ef2651f4738863fec375c93e741f59959711c99450c49d543d0aedcde58e546", func := "tracebook/tracebooklaw41.TemporalCoalesces", spec := "temporalCoalesces", inPlace := ["internal/bytealg.IndexByteString"], unfollowed := true, recurses := true, apart := false }
def TemporalCoalescesSaid : Prop := temporalCoalescesRow.holds Tryz.pinned (OpenSpec.ofChange temporalCoalescesSpec)

/-- ITS FALSE NEIGHBOUR: 'it returns false'. Refute it at one input. -/
def temporalCoalescesWrong : ChangeSpec := { name := "temporalCoalesces", fn := fun _ => fun
  | [d1, d2] => { results := [.lit (.bool false)], args := [d1, d2] }
  | _ => none }
def TemporalCoalescesWrongFalsely : Prop := temporalCoalescesRow.holds Tryz.pinned (OpenSpec.ofChange temporalCoalescesWrong)

/- THE SECOND FORM. 'bulk': how many values and letters a reading holds, each counted each time it is reached (what is shared counts as often as it is met; a slice's spare places count too). A statement '..UptoSaid' is the law's where the arguments, and the package variables that the reading takes, are together of bulk at most 1048576: NARROWER than '..Said'. Prove '..Said' where nothing that the law and all that it calls make is longer than what came in: it says more and counts as full. Else prove '..UptoSaid'. A law counts once. -/
mutual
def uptoBulk {H : Type} : DataW H → Nat
  | .lit (.string bytes) => bytes.length + 1
  | .lit _ => 1
  | .nil => 1
  | .ptr d => uptoBulk d + 1
  | .slice elems spare => uptoBulkAll elems + uptoBulkAll spare + 1
  | .agg parts => uptoBulkAll parts + 1
  | .iface _ d => uptoBulk d + 1
  | .map entries => uptoBulkEntries entries + 1
  | .held _ => 1
def uptoBulkAll {H : Type} : List (DataW H) → Nat
  | [] => 0
  | d :: r => uptoBulk d + uptoBulkAll r
def uptoBulkEntries {H : Type} : List (Lit × DataW H) → Nat
  | [] => 0
  | x :: r => uptoBulkEntry x + uptoBulkEntries r
def uptoBulkEntry {H : Type} : Lit × DataW H → Nat
  | (.string bytes, d) => bytes.length + uptoBulk d + 1
  | (_, d) => uptoBulk d + 1
 end
def uptoSmall : (H : Type) → List (DataW H) → Bool := fun _ ds => decide (uptoBulkAll ds ≤ 1048576)
def OpenSpec.upto (s : _root_.Go.ChangeSpec) : _root_.Go.OpenSpec := { _root_.Go.OpenSpec.ofChange s with cond := some uptoSmall }

/-- 'tracebooklaw41.TemporalOverlaps', WHERE WHAT IT READS IS OF BULK AT MOST 1048576: true; the input reads as it did. -/
def temporalOverlapsUptoRow : OpenClaim := { program := "ytjenenllmjlimaagreat", sum := "1ef2651f4738863fec375c93e741f59959711c99450c49d543d0aedcde58e546", func := "tracebook/tracebooklaw41.TemporalOverlaps", spec := "temporalOverlaps", inPlace := ["internal/bytealg.IndexByteString"], unfollowed := true, recurses := true, apart := false, narrowed := true }
def TemporalOverlapsUptoSaid : Prop := temporalOverlapsUptoRow.holds Tryz.pinned (OpenSpec.upto temporalOverlapsSpec)

/-- 'tracebooklaw41.TemporalNearests', WHERE WHAT IT READS IS OF BULK AT MOST 1048576: true; the input reads as it did. -/
def temporalNearestsUptoRow : OpenClaim := { program := "ytjenenllmjlimaagreat", sum := "1ef2651f4738863fec375c93e741f59959711c99450c49d543d0aedcde58e546", func := "tracebook/tracebooklaw41.TemporalNearests", spec := "temporalNearests", inPlace := ["internal/bytealg.IndexByteString"], unfollowed := true, recurses := true, apart := false, narrowed := true }
def TemporalNearestsUptoSaid : Prop := temporalNearestsUptoRow.holds Tryz.pinned (OpenSpec.upto temporalNearestsSpec)

/-- 'tracebooklaw41.TemporalCoalesces', WHERE WHAT IT READS IS OF BULK AT MOST 1048576: true; the input reads as it did. -/
def temporalCoalescesUptoRow : OpenClaim := { program := "ytjenenllmjlimaagreat", sum := "1ef2651f4738863fec375c93e741f59959711c99450c49d543d0aedcde58e546", func := "tracebook/tracebooklaw41.TemporalCoalesces", spec := "temporalCoalesces", inPlace := ["internal/bytealg.IndexByteString"], unfollowed := true, recurses := true, apart := false, narrowed := true }
def TemporalCoalescesUptoSaid : Prop := temporalCoalescesUptoRow.holds Tryz.pinned (OpenSpec.upto temporalCoalescesSpec)

end Rows
end Go.Proofs.YtjenenllmjlimaaGreat
