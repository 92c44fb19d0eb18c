/-
  NARROWER THAN 'FOR EVERY INPUT', by the rows' own cells (each row's printed sentence says how): TypingSteps: loops · TypingQueries: loops.
  DERIVED. THE GIVEN ROWS OF THIS SEAT. 2 by the template 'for every input the law returns true; each argument reads behind the call as it read before'; 0 by the template 'total and deterministic' (their statements: YtmhjgeneogknpaaGreatTotals.lean).
  GIVEN WITH THE SEED: the statements are not yours to turn. If you find one false, say at which input.
  Laid BY PROGRAM, IN A SANDBOX (cutbox-rows.mjs): the forced cells as the released guide's own fill.sh prints them over the translation 8b1ed0169cee80a4… (all of the seat's roots in one cut). By AI agents, Wed Nov 11 2026. No macro, syntax, notation, axiom, sorry.
-/
import Derived.Test.YtmhjgeneogknpaaGreatChecked
import GoSem.Claim
import GoSem.ClaimJoined
import GoSem.ClaimMapViews
import Derived.JoinedTies
import Derived.KernelRfl
namespace Go.Proofs.YtmhjgeneogknpaaGreat
/- THE CELL 'sum', in the pinned program and in every row, IS THE sha256 OF THE DUMP (.gsa) THAT YtmhjgeneogknpaaGreatProg.lean LOADS. Nothing in Lean hashes anything: it is a label: what it is worth is what the hold of that sum in a sandbox is worth. -/
noncomputable def Tryz.pinned : Pinned := { name := "ytmhjgeneogknpaagreat", sum := "8b1ed0169cee80a45fc8b604bfc5ca9b5f9aeb059bb1cb271789134baaa8d7b2", checked := Tryz.checked }
namespace Rows
def none {H : Type} : Left H := { results := [], args := [] }

/-- 'tracebooklaw39.TypingSteps': WHATEVER THE INPUT: true; the input reads as it did. -/
def typingStepsSpec : ChangeSpec := { name := "typingSteps", fn := fun _ => fun
  | [d1, d2, d3] => { results := [.lit (.bool true)], args := [d1, d2, d3] }
  | _ => none }
def typingStepsRow : OpenClaim := { program := "ytmhjgeneogknpaagreat", sum := "8b1ed0169cee80a45fc8b604bfc5ca9b5f9aeb059bb1cb271789134baaa8d7b2", func := "tracebook/tracebooklaw39.TypingSteps", spec := "typingSteps", inPlace := ["internal/bytealg.IndexByteString"], unfollowed := true, recurses := true, loops := true, apart := false }
def TypingStepsSaid : Prop := typingStepsRow.holds Tryz.pinned (OpenSpec.ofChange typingStepsSpec)

/-- ITS FALSE NEIGHBOUR: 'it returns false'. Refute it at one input. -/
def typingStepsWrong : ChangeSpec := { name := "typingSteps", fn := fun _ => fun
  | [d1, d2, d3] => { results := [.lit (.bool false)], args := [d1, d2, d3] }
  | _ => none }
def TypingStepsWrongFalsely : Prop := typingStepsRow.holds Tryz.pinned (OpenSpec.ofChange typingStepsWrong)

/-- 'tracebooklaw39.TypingQueries': WHATEVER THE INPUT: true; the input reads as it did. -/
def typingQueriesSpec : ChangeSpec := { name := "typingQueries", fn := fun _ => fun
  | [d1, d2] => { results := [.lit (.bool true)], args := [d1, d2] }
  | _ => none }
def typingQueriesRow : OpenClaim := { program := "ytmhjgeneogknpaagreat", sum := "8b1ed0169cee80a45fc8b604bfc5ca9b5f9aeb059bb1cb271789134baaa8d7b2", func := "tracebook/tracebooklaw39.TypingQueries", spec := "typingQueries", inPlace := ["internal/bytealg.IndexByteString"], unfollowed := true, recurses := true, loops := true, apart := false }
def TypingQueriesSaid : Prop := typingQueriesRow.holds Tryz.pinned (OpenSpec.ofChange typingQueriesSpec)

/-- ITS FALSE NEIGHBOUR: 'it returns false'. Refute it at one input. -/
def typingQueriesWrong : ChangeSpec := { name := "typingQueries", fn := fun _ => fun
  | [d1, d2] => { results := [.lit (.bool false)], args := [d1, d2] }
  | _ => none }
def TypingQueriesWrongFalsely : Prop := typingQueriesRow.holds Tryz.pinned (OpenSpec.ofChange typingQueriesWrong)

/- THE SECOND FORM. 'bulk': how many values and letters a reading holds, each counted each time it is reached (what is shared counts as often as it is met; a slice's spare places count too). A statement '..UptoSaid' is the law's where the arguments, and the package variables that the reading takes, are together of bulk at most 1048576: NARROWER than '..Said'. Prove '..Said' where nothing that the law and all that it calls make is longer than what came in: it says more and counts as full. Else prove '..UptoSaid'. A law counts once. -/
mutual
def uptoBulk {H : Type} : DataW H → Nat
  | .lit (.string bytes) => bytes.length + 1
  | .lit _ => 1
  | .nil => 1
  | .ptr d => uptoBulk d + 1
  | .slice elems spare => uptoBulkAll elems + uptoBulkAll spare + 1
  | .agg parts => uptoBulkAll parts + 1
  | .iface _ d => uptoBulk d + 1
  | .map entries => uptoBulkEntries entries + 1
  | .held _ => 1
def uptoBulkAll {H : Type} : List (DataW H) → Nat
  | [] => 0
  | d :: r => uptoBulk d + uptoBulkAll r
def uptoBulkEntries {H : Type} : List (Lit × DataW H) → Nat
  | [] => 0
  | x :: r => uptoBulkEntry x + uptoBulkEntries r
def uptoBulkEntry {H : Type} : Lit × DataW H → Nat
  | (.string bytes, d) => bytes.length + uptoBulk d + 1
  | (_, d) => uptoBulk d + 1
 end
def uptoSmall : (H : Type) → List (DataW H) → Bool := fun _ ds => decide (uptoBulkAll ds ≤ 1048576)
def OpenSpec.upto (s : _root_.Go.ChangeSpec) : _root_.Go.OpenSpec := { _root_.Go.OpenSpec.ofChange s with cond := some uptoSmall }

/-- 'tracebooklaw39.TypingSteps', WHERE WHAT IT READS IS OF BULK AT MOST 1048576: true; the input reads as it did. -/
def typingStepsUptoRow : OpenClaim := { program := "ytmhjgeneogknpaagreat", sum := "8b1ed0169cee80a45fc8b604bfc5ca9b5f9aeb059bb1cb271789134baaa8d7b2", func := "tracebook/tracebooklaw39.TypingSteps", spec := "typingSteps", inPlace := ["internal/bytealg.IndexByteString"], unfollowed := true, recurses := true, loops := true, apart := false, narrowed := true }
def TypingStepsUptoSaid : Prop := typingStepsUptoRow.holds Tryz.pinned (OpenSpec.upto typingStepsSpec)

/-- 'tracebooklaw39.TypingQueries', WHERE WHAT IT READS IS OF BULK AT MOST 1048576: true; the input reads as it did. -/
def typingQueriesUptoRow : OpenClaim := { program := "ytmhjgeneogknpaagreat", sum := "8b1ed0169cee80a45fc8b604bfc5ca9b5f9aeb059bb1cb271789134baaa8d7b2", func := "tracebook/tracebooklaw39.TypingQueries", spec := "typingQueries", inPlace := ["internal/bytealg.IndexByteString"], unfollowed := true, recurses := true, loops := true, apart := false, narrowed := true }
def TypingQueriesUptoSaid : Prop := typingQueriesUptoRow.holds Tryz.pinned (OpenSpec.upto typingQueriesSpec)

end Rows
end Go.Proofs.YtmhjgeneogknpaaGreat
