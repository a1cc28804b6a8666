/-
  No cell of these rows narrows 'for every input' (looked for: loops, veiled, ifaces, maps, wideKeys, modest, calm, conditions, laid).
  DERIVED. THE GIVEN ROWS OF THIS SEAT. 3 by the template 'for every input the law returns true; each argument reads behind the call as it read before'; 0 by the template 'total and deterministic' (their statements: YtidcnkjgbleoiaaTotals.lean).
  GIVEN WITH THE SEED: the statements are not yours to turn. If you find one false, say at which input.
  Laid BY PROGRAM, IN A SANDBOX (cutbox-rows.mjs): the forced cells as the released guide's own fill.sh prints them over the translation e77f044470759eec… (all of the seat's roots in one cut). By AI agents, Wed Nov 11 2026. No macro, syntax, notation, axiom, sorry.
-/
import Derived.Test.YtidcnkjgbleoiaaChecked
import GoSem.Claim
import GoSem.ClaimJoined
import GoSem.ClaimMapViews
import Derived.JoinedTies
import Derived.KernelRfl
namespace Go.Proofs.Ytidcnkjgbleoiaa
/- THE CELL 'sum', in the pinned program and in every row, IS THE sha256 OF THE DUMP (.gsa) THAT YtidcnkjgbleoiaaProg.lean LOADS. Nothing in Lean hashes anything: it is a label: what it is worth is what the hold of that sum in a sandbox is worth. -/
noncomputable def Try.pinned : Pinned := { name := "ytidcnkjgbleoiaa", sum := "e77f044470759eec82e3c47edc4aabd7cdf54fc6ac58482d5617ed822f5a0272", checked := Try.checked }
namespace Rows
def none {H : Type} : Left H := { results := [], args := [] }

/-- 'laws.FnExactAllFactors': WHATEVER THE INPUT: true; the input reads as it did. -/
def fnExactAllFactorsSpec : ChangeSpec := { name := "fnExactAllFactors", fn := fun _ => fun
  | [d] => { results := [.lit (.bool true)], args := [d] }
  | _ => none }
def fnExactAllFactorsRow : OpenClaim := { program := "ytidcnkjgbleoiaa", sum := "e77f044470759eec82e3c47edc4aabd7cdf54fc6ac58482d5617ed822f5a0272", func := "loop.example/g01344/laws.FnExactAllFactors", spec := "fnExactAllFactors", unfollowed := true, recurses := true, apart := false }
def FnExactAllFactorsSaid : Prop := fnExactAllFactorsRow.holds Try.pinned (OpenSpec.ofChange fnExactAllFactorsSpec)

/-- ITS FALSE NEIGHBOUR: 'it returns false'. Refute it at one input. -/
def fnExactAllFactorsWrong : ChangeSpec := { name := "fnExactAllFactors", fn := fun _ => fun
  | [d] => { results := [.lit (.bool false)], args := [d] }
  | _ => none }
def FnExactAllFactorsWrongFalsely : Prop := fnExactAllFactorsRow.holds Try.pinned (OpenSpec.ofChange fnExactAllFactorsWrong)

/-- 'laws.FnExactWidestStep': WHATEVER THE INPUT: true; the input reads as it did. -/
def fnExactWidestStepSpec : ChangeSpec := { name := "fnExactWidestStep", fn := fun _ => fun
  | [d] => { results := [.lit (.bool true)], args := [d] }
  | _ => none }
def fnExactWidestStepRow : OpenClaim := { program := "ytidcnkjgbleoiaa", sum := "e77f044470759eec82e3c47edc4aabd7cdf54fc6ac58482d5617ed822f5a0272", func := "loop.example/g01344/laws.FnExactWidestStep", spec := "fnExactWidestStep", unfollowed := true, recurses := true, apart := false }
def FnExactWidestStepSaid : Prop := fnExactWidestStepRow.holds Try.pinned (OpenSpec.ofChange fnExactWidestStepSpec)

/-- ITS FALSE NEIGHBOUR: 'it returns false'. Refute it at one input. -/
def fnExactWidestStepWrong : ChangeSpec := { name := "fnExactWidestStep", fn := fun _ => fun
  | [d] => { results := [.lit (.bool false)], args := [d] }
  | _ => none }
def FnExactWidestStepWrongFalsely : Prop := fnExactWidestStepRow.holds Try.pinned (OpenSpec.ofChange fnExactWidestStepWrong)

/-- 'laws.FnExactFactorsBetween': WHATEVER THE INPUT: true; the input reads as it did. -/
def fnExactFactorsBetweenSpec : ChangeSpec := { name := "fnExactFactorsBetween", fn := fun _ => fun
  | [d1, d2, d3] => { results := [.lit (.bool true)], args := [d1, d2, d3] }
  | _ => none }
def fnExactFactorsBetweenRow : OpenClaim := { program := "ytidcnkjgbleoiaa", sum := "e77f044470759eec82e3c47edc4aabd7cdf54fc6ac58482d5617ed822f5a0272", func := "loop.example/g01344/laws.FnExactFactorsBetween", spec := "fnExactFactorsBetween", unfollowed := true, recurses := true, apart := false }
def FnExactFactorsBetweenSaid : Prop := fnExactFactorsBetweenRow.holds Try.pinned (OpenSpec.ofChange fnExactFactorsBetweenSpec)

/-- ITS FALSE NEIGHBOUR: 'it returns false'. Refute it at one input. -/
def fnExactFactorsBetweenWrong : ChangeSpec := { name := "fnExactFactorsBetween", fn := fun _ => fun
  | [d1, d2, d3] => { results := [.lit (.bool false)], args := [d1, d2, d3] }
  | _ => none }
def FnExactFactorsBetweenWrongFalsely : Prop := fnExactFactorsBetweenRow.holds Try.pinned (OpenSpec.ofChange fnExactFactorsBetweenWrong)

/- THE SECOND FORM. 'bulk': how many values and letters a reading holds, each counted each time it is reached (what is shared counts as often as it is met; a slice's spare places count too). A statement '..UptoSaid' is the law's where the arguments, and the package variables that the reading takes, are together of bulk at most 1048576: NARROWER than '..Said'. Prove '..Said' where nothing that the law and all that it calls make is longer than what came in: it says more and counts as full. Else prove '..UptoSaid'. A law counts once. -/
mutual
def uptoBulk {H : Type} : DataW H → Nat
  | .lit (.string bytes) => bytes.length + 1
  | .lit _ => 1
  | .nil => 1
  | .ptr d => uptoBulk d + 1
  | .slice elems spare => uptoBulkAll elems + uptoBulkAll spare + 1
  | .agg parts => uptoBulkAll parts + 1
  | .iface _ d => uptoBulk d + 1
  | .map entries => uptoBulkEntries entries + 1
  | .held _ => 1
def uptoBulkAll {H : Type} : List (DataW H) → Nat
  | [] => 0
  | d :: r => uptoBulk d + uptoBulkAll r
def uptoBulkEntries {H : Type} : List (Lit × DataW H) → Nat
  | [] => 0
  | x :: r => uptoBulkEntry x + uptoBulkEntries r
def uptoBulkEntry {H : Type} : Lit × DataW H → Nat
  | (.string bytes, d) => bytes.length + uptoBulk d + 1
  | (_, d) => uptoBulk d + 1
 end
def uptoSmall : (H : Type) → List (DataW H) → Bool := fun _ ds => decide (uptoBulkAll ds ≤ 1048576)
def OpenSpec.upto (s : _root_.Go.ChangeSpec) : _root_.Go.OpenSpec := { _root_.Go.OpenSpec.ofChange s with cond := some uptoSmall }

/-- 'laws.FnExactAllFactors', WHERE WHAT IT READS IS OF BULK AT MOST 1048576: true; the input reads as it did. -/
def fnExactAllFactorsUptoRow : OpenClaim := { program := "ytidcnkjgbleoiaa", sum := "e77f044470759eec82e3c47edc4aabd7cdf54fc6ac58482d5617ed822f5a0272", func := "loop.example/g01344/laws.FnExactAllFactors", spec := "fnExactAllFactors", unfollowed := true, recurses := true, apart := false, narrowed := true }
def FnExactAllFactorsUptoSaid : Prop := fnExactAllFactorsUptoRow.holds Try.pinned (OpenSpec.upto fnExactAllFactorsSpec)

/-- 'laws.FnExactWidestStep', WHERE WHAT IT READS IS OF BULK AT MOST 1048576: true; the input reads as it did. -/
def fnExactWidestStepUptoRow : OpenClaim := { program := "ytidcnkjgbleoiaa", sum := "e77f044470759eec82e3c47edc4aabd7cdf54fc6ac58482d5617ed822f5a0272", func := "loop.example/g01344/laws.FnExactWidestStep", spec := "fnExactWidestStep", unfollowed := true, recurses := true, apart := false, narrowed := true }
def FnExactWidestStepUptoSaid : Prop := fnExactWidestStepUptoRow.holds Try.pinned (OpenSpec.upto fnExactWidestStepSpec)

/-- 'laws.FnExactFactorsBetween', WHERE WHAT IT READS IS OF BULK AT MOST 1048576: true; the input reads as it did. -/
def fnExactFactorsBetweenUptoRow : OpenClaim := { program := "ytidcnkjgbleoiaa", sum := "e77f044470759eec82e3c47edc4aabd7cdf54fc6ac58482d5617ed822f5a0272", func := "loop.example/g01344/laws.FnExactFactorsBetween", spec := "fnExactFactorsBetween", unfollowed := true, recurses := true, apart := false, narrowed := true }
def FnExactFactorsBetweenUptoSaid : Prop := fnExactFactorsBetweenUptoRow.holds Try.pinned (OpenSpec.upto fnExactFactorsBetweenSpec)

end Rows
end Go.Proofs.Ytidcnkjgbleoiaa
