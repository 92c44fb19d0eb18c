/-
  NARROWER THAN 'FOR EVERY INPUT', by the rows' own cells (each row's printed sentence says how): EvalTypes: loops · EvalLogic: loops.
  DERIVED. THE GIVEN ROWS OF THIS SEAT. 5 by the template 'for every input the law returns true; each argument reads behind the call as it read before'; 0 by the template 'total and deterministic' (their statements: YtaifpecinbjgcaaTotals.lean).
  GIVEN WITH THE SEED: the statements are not yours to turn. If you find one false, say at which input.
  Laid BY PROGRAM, IN A SANDBOX (cutbox-rows.mjs): the forced cells as the released guide's own fill.sh prints them over the translation dbea410af7c4e230… (all of the seat's roots in one cut). By AI agents, Wed Nov 11 2026. No macro, syntax, notation, axiom, sorry.
-/
import Derived.Test.YtaifpecinbjgcaaChecked
import GoSem.Claim
import GoSem.ClaimJoined
import GoSem.ClaimMapViews
import Derived.JoinedTies
import Derived.KernelRfl
namespace Go.Proofs.Ytaifpecinbjgcaa
/- THE CELL 'sum', in the pinned program and in every row, IS THE sha256 OF THE DUMP (.gsa) THAT YtaifpecinbjgcaaProg.lean LOADS. Nothing in Lean hashes anything: it is a label: what it is worth is what the hold of that sum in a sandbox is worth. -/
noncomputable def Try.pinned : Pinned := { name := "ytaifpecinbjgcaa", sum := "dbea410af7c4e23076ee2f20e158f39159a012da5363a6c85ee2586b1e5a7d42", checked := Try.checked }
namespace Rows
def none {H : Type} : Left H := { results := [], args := [] }

/-- 'tracebooklaw40.EvalTypes': WHATEVER THE INPUT: true; the input reads as it did. -/
def evalTypesSpec : ChangeSpec := { name := "evalTypes", fn := fun _ => fun
  | [d1, d2, d3] => { results := [.lit (.bool true)], args := [d1, d2, d3] }
  | _ => none }
def evalTypesRow : OpenClaim := { program := "ytaifpecinbjgcaa", sum := "dbea410af7c4e23076ee2f20e158f39159a012da5363a6c85ee2586b1e5a7d42", func := "tracebook/tracebooklaw40.EvalTypes", spec := "evalTypes", inPlace := ["internal/bytealg.IndexByteString", "internal/bytealg.IndexString"], unfollowed := true, recurses := true, named := ["math/bits.divideError", "math/bits.overflowError", "internal/bytealg.MaxLen"], loops := true, apart := false }
def EvalTypesSaid : Prop := evalTypesRow.holds Try.pinned (OpenSpec.ofChange evalTypesSpec)

/-- ITS FALSE NEIGHBOUR: 'it returns false'. Refute it at one input. -/
def evalTypesWrong : ChangeSpec := { name := "evalTypes", fn := fun _ => fun
  | [d1, d2, d3] => { results := [.lit (.bool false)], args := [d1, d2, d3] }
  | _ => none }
def EvalTypesWrongFalsely : Prop := evalTypesRow.holds Try.pinned (OpenSpec.ofChange evalTypesWrong)

/-- 'tracebooklaw40.EvalLogic': WHATEVER THE INPUT: true; the input reads as it did. -/
def evalLogicSpec : ChangeSpec := { name := "evalLogic", fn := fun _ => fun
  | [d1, d2, d3, d4] => { results := [.lit (.bool true)], args := [d1, d2, d3, d4] }
  | _ => none }
def evalLogicRow : OpenClaim := { program := "ytaifpecinbjgcaa", sum := "dbea410af7c4e23076ee2f20e158f39159a012da5363a6c85ee2586b1e5a7d42", func := "tracebook/tracebooklaw40.EvalLogic", spec := "evalLogic", inPlace := ["internal/bytealg.IndexByteString", "internal/bytealg.IndexString"], unfollowed := true, recurses := true, named := ["math/bits.divideError", "math/bits.overflowError", "internal/bytealg.MaxLen"], loops := true, apart := false }
def EvalLogicSaid : Prop := evalLogicRow.holds Try.pinned (OpenSpec.ofChange evalLogicSpec)

/-- ITS FALSE NEIGHBOUR: 'it returns false'. Refute it at one input. -/
def evalLogicWrong : ChangeSpec := { name := "evalLogic", fn := fun _ => fun
  | [d1, d2, d3, d4] => { results := [.lit (.bool false)], args := [d1, d2, d3, d4] }
  | _ => none }
def EvalLogicWrongFalsely : Prop := evalLogicRow.holds Try.pinned (OpenSpec.ofChange evalLogicWrong)

/-- 'tracebooklaw40.EvalDivides': WHATEVER THE INPUT: true; the input reads as it did. -/
def evalDividesSpec : ChangeSpec := { name := "evalDivides", fn := fun _ => fun
  | [d1, d2] => { results := [.lit (.bool true)], args := [d1, d2] }
  | _ => none }
def evalDividesRow : OpenClaim := { program := "ytaifpecinbjgcaa", sum := "dbea410af7c4e23076ee2f20e158f39159a012da5363a6c85ee2586b1e5a7d42", func := "tracebook/tracebooklaw40.EvalDivides", spec := "evalDivides", inPlace := ["internal/bytealg.IndexByteString", "internal/bytealg.IndexString"], unfollowed := true, recurses := true, named := ["math/bits.divideError", "math/bits.overflowError", "internal/bytealg.MaxLen"], apart := false }
def EvalDividesSaid : Prop := evalDividesRow.holds Try.pinned (OpenSpec.ofChange evalDividesSpec)

/-- ITS FALSE NEIGHBOUR: 'it returns false'. Refute it at one input. -/
def evalDividesWrong : ChangeSpec := { name := "evalDivides", fn := fun _ => fun
  | [d1, d2] => { results := [.lit (.bool false)], args := [d1, d2] }
  | _ => none }
def EvalDividesWrongFalsely : Prop := evalDividesRow.holds Try.pinned (OpenSpec.ofChange evalDividesWrong)

/-- 'tracebooklaw40.EvalAggs': WHATEVER THE INPUT: true; the input reads as it did. -/
def evalAggsSpec : ChangeSpec := { name := "evalAggs", fn := fun _ => fun
  | [d1, d2] => { results := [.lit (.bool true)], args := [d1, d2] }
  | _ => none }
def evalAggsRow : OpenClaim := { program := "ytaifpecinbjgcaa", sum := "dbea410af7c4e23076ee2f20e158f39159a012da5363a6c85ee2586b1e5a7d42", func := "tracebook/tracebooklaw40.EvalAggs", spec := "evalAggs", inPlace := ["internal/bytealg.IndexByteString", "internal/bytealg.IndexString"], unfollowed := true, recurses := true, named := ["math/bits.divideError", "math/bits.overflowError", "internal/bytealg.MaxLen"], apart := false }
def EvalAggsSaid : Prop := evalAggsRow.holds Try.pinned (OpenSpec.ofChange evalAggsSpec)

/-- ITS FALSE NEIGHBOUR: 'it returns false'. Refute it at one input. -/
def evalAggsWrong : ChangeSpec := { name := "evalAggs", fn := fun _ => fun
  | [d1, d2] => { results := [.lit (.bool false)], args := [d1, d2] }
  | _ => none }
def EvalAggsWrongFalsely : Prop := evalAggsRow.holds Try.pinned (OpenSpec.ofChange evalAggsWrong)

/-- 'tracebooklaw40.EvalSums': WHATEVER THE INPUT: true; the input reads as it did. -/
def evalSumsSpec : ChangeSpec := { name := "evalSums", fn := fun _ => fun
  | [d1, d2] => { results := [.lit (.bool true)], args := [d1, d2] }
  | _ => none }
def evalSumsRow : OpenClaim := { program := "ytaifpecinbjgcaa", sum := "dbea410af7c4e23076ee2f20e158f39159a012da5363a6c85ee2586b1e5a7d42", func := "tracebook/tracebooklaw40.EvalSums", spec := "evalSums", inPlace := ["internal/bytealg.IndexByteString", "internal/bytealg.IndexString"], unfollowed := true, recurses := true, named := ["math/bits.divideError", "math/bits.overflowError", "internal/bytealg.MaxLen"], apart := false }
def EvalSumsSaid : Prop := evalSumsRow.holds Try.pinned (OpenSpec.ofChange evalSumsSpec)

/-- ITS FALSE NEIGHBOUR: 'it returns false'. Refute it at one input. -/
def evalSumsWrong : ChangeSpec := { name := "evalSums", fn := fun _ => fun
  | [d1, d2] => { results := [.lit (.bool false)], args := [d1, d2] }
  | _ => none }
def EvalSumsWrongFalsely : Prop := evalSumsRow.holds Try.pinned (OpenSpec.ofChange evalSumsWrong)

/- THE SECOND FORM. 'bulk': how many values and letters a reading holds, each counted each time it is reached (what is shared counts as often as it is met; a slice's spare places count too). A statement '..UptoSaid' is the law's where the arguments, and the package variables that the reading takes, are together of bulk at most 1048576: NARROWER than '..Said'. Prove '..Said' where nothing that the law and all that it calls make is longer than what came in: it says more and counts as full. Else prove '..UptoSaid'. A law counts once. -/
mutual
def uptoBulk {H : Type} : DataW H → Nat
  | .lit (.string bytes) => bytes.length + 1
  | .lit _ => 1
  | .nil => 1
  | .ptr d => uptoBulk d + 1
  | .slice elems spare => uptoBulkAll elems + uptoBulkAll spare + 1
  | .agg parts => uptoBulkAll parts + 1
  | .iface _ d => uptoBulk d + 1
  | .map entries => uptoBulkEntries entries + 1
  | .held _ => 1
def uptoBulkAll {H : Type} : List (DataW H) → Nat
  | [] => 0
  | d :: r => uptoBulk d + uptoBulkAll r
def uptoBulkEntries {H : Type} : List (Lit × DataW H) → Nat
  | [] => 0
  | x :: r => uptoBulkEntry x + uptoBulkEntries r
def uptoBulkEntry {H : Type} : Lit × DataW H → Nat
  | (.string bytes, d) => bytes.length + uptoBulk d + 1
  | (_, d) => uptoBulk d + 1
 end
def uptoSmall : (H : Type) → List (DataW H) → Bool := fun _ ds => decide (uptoBulkAll ds ≤ 1048576)
def OpenSpec.upto (s : _root_.Go.ChangeSpec) : _root_.Go.OpenSpec := { _root_.Go.OpenSpec.ofChange s with cond := some uptoSmall }

/-- 'tracebooklaw40.EvalTypes', WHERE WHAT IT READS IS OF BULK AT MOST 1048576: true; the input reads as it did. -/
def evalTypesUptoRow : OpenClaim := { program := "ytaifpecinbjgcaa", sum := "dbea410af7c4e23076ee2f20e158f39159a012da5363a6c85ee2586b1e5a7d42", func := "tracebook/tracebooklaw40.EvalTypes", spec := "evalTypes", inPlace := ["internal/bytealg.IndexByteString", "internal/bytealg.IndexString"], unfollowed := true, recurses := true, named := ["math/bits.divideError", "math/bits.overflowError", "internal/bytealg.MaxLen"], loops := true, apart := false, narrowed := true }
def EvalTypesUptoSaid : Prop := evalTypesUptoRow.holds Try.pinned (OpenSpec.upto evalTypesSpec)

/-- 'tracebooklaw40.EvalLogic', WHERE WHAT IT READS IS OF BULK AT MOST 1048576: true; the input reads as it did. -/
def evalLogicUptoRow : OpenClaim := { program := "ytaifpecinbjgcaa", sum := "dbea410af7c4e23076ee2f20e158f39159a012da5363a6c85ee2586b1e5a7d42", func := "tracebook/tracebooklaw40.EvalLogic", spec := "evalLogic", inPlace := ["internal/bytealg.IndexByteString", "internal/bytealg.IndexString"], unfollowed := true, recurses := true, named := ["math/bits.divideError", "math/bits.overflowError", "internal/bytealg.MaxLen"], loops := true, apart := false, narrowed := true }
def EvalLogicUptoSaid : Prop := evalLogicUptoRow.holds Try.pinned (OpenSpec.upto evalLogicSpec)

/-- 'tracebooklaw40.EvalDivides', WHERE WHAT IT READS IS OF BULK AT MOST 1048576: true; the input reads as it did. -/
def evalDividesUptoRow : OpenClaim := { program := "ytaifpecinbjgcaa", sum := "dbea410af7c4e23076ee2f20e158f39159a012da5363a6c85ee2586b1e5a7d42", func := "tracebook/tracebooklaw40.EvalDivides", spec := "evalDivides", inPlace := ["internal/bytealg.IndexByteString", "internal/bytealg.IndexString"], unfollowed := true, recurses := true, named := ["math/bits.divideError", "math/bits.overflowError", "internal/bytealg.MaxLen"], apart := false, narrowed := true }
def EvalDividesUptoSaid : Prop := evalDividesUptoRow.holds Try.pinned (OpenSpec.upto evalDividesSpec)

/-- 'tracebooklaw40.EvalAggs', WHERE WHAT IT READS IS OF BULK AT MOST 1048576: true; the input reads as it did. -/
def evalAggsUptoRow : OpenClaim := { program := "ytaifpecinbjgcaa", sum := "dbea410af7c4e23076ee2f20e158f39159a012da5363a6c85ee2586b1e5a7d42", func := "tracebook/tracebooklaw40.EvalAggs", spec := "evalAggs", inPlace := ["internal/bytealg.IndexByteString", "internal/bytealg.IndexString"], unfollowed := true, recurses := true, named := ["math/bits.divideError", "math/bits.overflowError", "internal/bytealg.MaxLen"], apart := false, narrowed := true }
def EvalAggsUptoSaid : Prop := evalAggsUptoRow.holds Try.pinned (OpenSpec.upto evalAggsSpec)

/-- 'tracebooklaw40.EvalSums', WHERE WHAT IT READS IS OF BULK AT MOST 1048576: true; the input reads as it did. -/
def evalSumsUptoRow : OpenClaim := { program := "ytaifpecinbjgcaa", sum := "dbea410af7c4e23076ee2f20e158f39159a012da5363a6c85ee2586b1e5a7d42", func := "tracebook/tracebooklaw40.EvalSums", spec := "evalSums", inPlace := ["internal/bytealg.IndexByteString", "internal/bytealg.IndexString"], unfollowed := true, recurses := true, named := ["math/bits.divideError", "math/bits.overflowError", "internal/bytealg.MaxLen"], apart := false, narrowed := true }
def EvalSumsUptoSaid : Prop := evalSumsUptoRow.holds Try.pinned (OpenSpec.upto evalSumsSpec)

end Rows
end Go.Proofs.Ytaifpecinbjgcaa
