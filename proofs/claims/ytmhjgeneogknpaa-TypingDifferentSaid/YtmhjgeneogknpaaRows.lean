/-
  NARROWER THAN 'FOR EVERY INPUT', by the rows' own cells (each row's printed sentence says how): TypingExprs: loops · TypingNulls: loops · TypingOthers: loops · TypingDifferent: loops.
  DERIVED. THE GIVEN ROWS OF THIS SEAT. 4 by the template 'for every input the law returns true; each argument reads behind the call as it read before'; 0 by the template 'total and deterministic' (their statements: YtmhjgeneogknpaaTotals.lean).
  GIVEN WITH THE SEED: the statements are not yours to turn. If you find one false, say at which input.
  Laid BY PROGRAM, IN A SANDBOX (cutbox-rows.mjs): the forced cells as the released guide's own fill.sh prints them over the translation cff3bdad369a1e9f… (all of the seat's roots in one cut). By AI agents, Wed Nov 11 2026. No macro, syntax, notation, axiom, sorry.
-/
import Derived.Test.YtmhjgeneogknpaaChecked
import GoSem.Claim
import GoSem.ClaimJoined
import GoSem.ClaimMapViews
import Derived.JoinedTies
import Derived.KernelRfl
namespace Go.Proofs.Ytmhjgeneogknpaa
/- THE CELL 'sum', in the pinned program and in every row, IS THE sha256 OF THE DUMP (.gsa) THAT YtmhjgeneogknpaaProg.lean LOADS. Nothing in Lean hashes anything: it is a label: what it is worth is what the hold of that sum in a sandbox is worth. -/
noncomputable def Try.pinned : Pinned := { name := "ytmhjgeneogknpaa", sum := "cff3bdad369a1e9f52eb4aeeb3c02d7380d63eead54314a565bf5d8dea85fe01", checked := Try.checked }
namespace Rows
def none {H : Type} : Left H := { results := [], args := [] }

/-- 'tracebooklaw39.TypingExprs': WHATEVER THE INPUT: true; the input reads as it did. -/
def typingExprsSpec : ChangeSpec := { name := "typingExprs", fn := fun _ => fun
  | [d1, d2] => { results := [.lit (.bool true)], args := [d1, d2] }
  | _ => none }
def typingExprsRow : OpenClaim := { program := "ytmhjgeneogknpaa", sum := "cff3bdad369a1e9f52eb4aeeb3c02d7380d63eead54314a565bf5d8dea85fe01", func := "tracebook/tracebooklaw39.TypingExprs", spec := "typingExprs", inPlace := ["internal/bytealg.IndexByteString"], unfollowed := true, recurses := true, loops := true, apart := false }
def TypingExprsSaid : Prop := typingExprsRow.holds Try.pinned (OpenSpec.ofChange typingExprsSpec)

/-- ITS FALSE NEIGHBOUR: 'it returns false'. Refute it at one input. -/
def typingExprsWrong : ChangeSpec := { name := "typingExprs", fn := fun _ => fun
  | [d1, d2] => { results := [.lit (.bool false)], args := [d1, d2] }
  | _ => none }
def TypingExprsWrongFalsely : Prop := typingExprsRow.holds Try.pinned (OpenSpec.ofChange typingExprsWrong)

/-- 'tracebooklaw39.TypingNulls': WHATEVER THE INPUT: true; the input reads as it did. -/
def typingNullsSpec : ChangeSpec := { name := "typingNulls", fn := fun _ => fun
  | [d1, d2, d3] => { results := [.lit (.bool true)], args := [d1, d2, d3] }
  | _ => none }
def typingNullsRow : OpenClaim := { program := "ytmhjgeneogknpaa", sum := "cff3bdad369a1e9f52eb4aeeb3c02d7380d63eead54314a565bf5d8dea85fe01", func := "tracebook/tracebooklaw39.TypingNulls", spec := "typingNulls", inPlace := ["internal/bytealg.IndexByteString"], unfollowed := true, recurses := true, loops := true, apart := false }
def TypingNullsSaid : Prop := typingNullsRow.holds Try.pinned (OpenSpec.ofChange typingNullsSpec)

/-- ITS FALSE NEIGHBOUR: 'it returns false'. Refute it at one input. -/
def typingNullsWrong : ChangeSpec := { name := "typingNulls", fn := fun _ => fun
  | [d1, d2, d3] => { results := [.lit (.bool false)], args := [d1, d2, d3] }
  | _ => none }
def TypingNullsWrongFalsely : Prop := typingNullsRow.holds Try.pinned (OpenSpec.ofChange typingNullsWrong)

/-- 'tracebooklaw39.TypingOthers': WHATEVER THE INPUT: true; the input reads as it did. -/
def typingOthersSpec : ChangeSpec := { name := "typingOthers", fn := fun _ => fun
  | [d1, d2] => { results := [.lit (.bool true)], args := [d1, d2] }
  | _ => none }
def typingOthersRow : OpenClaim := { program := "ytmhjgeneogknpaa", sum := "cff3bdad369a1e9f52eb4aeeb3c02d7380d63eead54314a565bf5d8dea85fe01", func := "tracebook/tracebooklaw39.TypingOthers", spec := "typingOthers", inPlace := ["internal/bytealg.IndexByteString"], unfollowed := true, recurses := true, loops := true, apart := false }
def TypingOthersSaid : Prop := typingOthersRow.holds Try.pinned (OpenSpec.ofChange typingOthersSpec)

/-- ITS FALSE NEIGHBOUR: 'it returns false'. Refute it at one input. -/
def typingOthersWrong : ChangeSpec := { name := "typingOthers", fn := fun _ => fun
  | [d1, d2] => { results := [.lit (.bool false)], args := [d1, d2] }
  | _ => none }
def TypingOthersWrongFalsely : Prop := typingOthersRow.holds Try.pinned (OpenSpec.ofChange typingOthersWrong)

/-- 'tracebooklaw39.TypingDifferent': WHATEVER THE INPUT: true; the input reads as it did. -/
def typingDifferentSpec : ChangeSpec := { name := "typingDifferent", fn := fun _ => fun
  | [d1, d2, d3] => { results := [.lit (.bool true)], args := [d1, d2, d3] }
  | _ => none }
def typingDifferentRow : OpenClaim := { program := "ytmhjgeneogknpaa", sum := "cff3bdad369a1e9f52eb4aeeb3c02d7380d63eead54314a565bf5d8dea85fe01", func := "tracebook/tracebooklaw39.TypingDifferent", spec := "typingDifferent", inPlace := ["internal/bytealg.IndexByteString"], unfollowed := true, recurses := true, loops := true, apart := false }
def TypingDifferentSaid : Prop := typingDifferentRow.holds Try.pinned (OpenSpec.ofChange typingDifferentSpec)

/-- ITS FALSE NEIGHBOUR: 'it returns false'. Refute it at one input. -/
def typingDifferentWrong : ChangeSpec := { name := "typingDifferent", fn := fun _ => fun
  | [d1, d2, d3] => { results := [.lit (.bool false)], args := [d1, d2, d3] }
  | _ => none }
def TypingDifferentWrongFalsely : Prop := typingDifferentRow.holds Try.pinned (OpenSpec.ofChange typingDifferentWrong)

/- THE SECOND FORM. 'bulk': how many values and letters a reading holds, each counted each time it is reached (what is shared counts as often as it is met; a slice's spare places count too). A statement '..UptoSaid' is the law's where the arguments, and the package variables that the reading takes, are together of bulk at most 1048576: NARROWER than '..Said'. Prove '..Said' where nothing that the law and all that it calls make is longer than what came in: it says more and counts as full. Else prove '..UptoSaid'. A law counts once. -/
mutual
def uptoBulk {H : Type} : DataW H → Nat
  | .lit (.string bytes) => bytes.length + 1
  | .lit _ => 1
  | .nil => 1
  | .ptr d => uptoBulk d + 1
  | .slice elems spare => uptoBulkAll elems + uptoBulkAll spare + 1
  | .agg parts => uptoBulkAll parts + 1
  | .iface _ d => uptoBulk d + 1
  | .map entries => uptoBulkEntries entries + 1
  | .held _ => 1
def uptoBulkAll {H : Type} : List (DataW H) → Nat
  | [] => 0
  | d :: r => uptoBulk d + uptoBulkAll r
def uptoBulkEntries {H : Type} : List (Lit × DataW H) → Nat
  | [] => 0
  | x :: r => uptoBulkEntry x + uptoBulkEntries r
def uptoBulkEntry {H : Type} : Lit × DataW H → Nat
  | (.string bytes, d) => bytes.length + uptoBulk d + 1
  | (_, d) => uptoBulk d + 1
 end
def uptoSmall : (H : Type) → List (DataW H) → Bool := fun _ ds => decide (uptoBulkAll ds ≤ 1048576)
def OpenSpec.upto (s : _root_.Go.ChangeSpec) : _root_.Go.OpenSpec := { _root_.Go.OpenSpec.ofChange s with cond := some uptoSmall }

/-- 'tracebooklaw39.TypingExprs', WHERE WHAT IT READS IS OF BULK AT MOST 1048576: true; the input reads as it did. -/
def typingExprsUptoRow : OpenClaim := { program := "ytmhjgeneogknpaa", sum := "cff3bdad369a1e9f52eb4aeeb3c02d7380d63eead54314a565bf5d8dea85fe01", func := "tracebook/tracebooklaw39.TypingExprs", spec := "typingExprs", inPlace := ["internal/bytealg.IndexByteString"], unfollowed := true, recurses := true, loops := true, apart := false, narrowed := true }
def TypingExprsUptoSaid : Prop := typingExprsUptoRow.holds Try.pinned (OpenSpec.upto typingExprsSpec)

/-- 'tracebooklaw39.TypingNulls', WHERE WHAT IT READS IS OF BULK AT MOST 1048576: true; the input reads as it did. -/
def typingNullsUptoRow : OpenClaim := { program := "ytmhjgeneogknpaa", sum := "cff3bdad369a1e9f52eb4aeeb3c02d7380d63eead54314a565bf5d8dea85fe01", func := "tracebook/tracebooklaw39.TypingNulls", spec := "typingNulls", inPlace := ["internal/bytealg.IndexByteString"], unfollowed := true, recurses := true, loops := true, apart := false, narrowed := true }
def TypingNullsUptoSaid : Prop := typingNullsUptoRow.holds Try.pinned (OpenSpec.upto typingNullsSpec)

/-- 'tracebooklaw39.TypingOthers', WHERE WHAT IT READS IS OF BULK AT MOST 1048576: true; the input reads as it did. -/
def typingOthersUptoRow : OpenClaim := { program := "ytmhjgeneogknpaa", sum := "cff3bdad369a1e9f52eb4aeeb3c02d7380d63eead54314a565bf5d8dea85fe01", func := "tracebook/tracebooklaw39.TypingOthers", spec := "typingOthers", inPlace := ["internal/bytealg.IndexByteString"], unfollowed := true, recurses := true, loops := true, apart := false, narrowed := true }
def TypingOthersUptoSaid : Prop := typingOthersUptoRow.holds Try.pinned (OpenSpec.upto typingOthersSpec)

/-- 'tracebooklaw39.TypingDifferent', WHERE WHAT IT READS IS OF BULK AT MOST 1048576: true; the input reads as it did. -/
def typingDifferentUptoRow : OpenClaim := { program := "ytmhjgeneogknpaa", sum := "cff3bdad369a1e9f52eb4aeeb3c02d7380d63eead54314a565bf5d8dea85fe01", func := "tracebook/tracebooklaw39.TypingDifferent", spec := "typingDifferent", inPlace := ["internal/bytealg.IndexByteString"], unfollowed := true, recurses := true, loops := true, apart := false, narrowed := true }
def TypingDifferentUptoSaid : Prop := typingDifferentUptoRow.holds Try.pinned (OpenSpec.upto typingDifferentSpec)

end Rows
end Go.Proofs.Ytmhjgeneogknpaa
