/-
  No cell of these rows narrows 'for every input' (looked for: loops, veiled, ifaces, maps, wideKeys, modest, calm, conditions, laid).
  DERIVED. THE GIVEN ROWS OF THIS SEAT. 9 by the template 'for every input the law returns true; each argument reads behind the call as it read before'; 0 by the template 'total and deterministic' (their statements: YtiipnbccfbielaaTotals.lean).
  GIVEN WITH THE SEED: the statements are not yours to turn. If you find one false, say at which input.
  Laid BY PROGRAM, IN A SANDBOX (cutbox-rows.mjs): the forced cells as the released guide's own fill.sh prints them over the translation f59ebe2cf582167b… (all of the seat's roots in one cut). By AI agents, Wed Nov 11 2026. No macro, syntax, notation, axiom, sorry.
-/
import Derived.Test.YtiipnbccfbielaaChecked
import GoSem.Claim
import GoSem.ClaimJoined
import GoSem.ClaimMapViews
import Derived.JoinedTies
import Derived.KernelRfl
namespace Go.Proofs.Ytiipnbccfbielaa
/- THE CELL 'sum', in the pinned program and in every row, IS THE sha256 OF THE DUMP (.gsa) THAT YtiipnbccfbielaaProg.lean LOADS. Nothing in Lean hashes anything: it is a label: what it is worth is what the hold of that sum in a sandbox is worth. -/
noncomputable def Try.pinned : Pinned := { name := "ytiipnbccfbielaa", sum := "f59ebe2cf582167bf8885be1a77d980716e40561297d9e703b94d2b46f1ff9e1", checked := Try.checked }
namespace Rows
def none {H : Type} : Left H := { results := [], args := [] }

/-- 'laws.FnExactPlaceOf': WHATEVER THE INPUT: true; the input reads as it did. -/
def fnExactPlaceOfSpec : ChangeSpec := { name := "fnExactPlaceOf", fn := fun _ => fun
  | [d] => { results := [.lit (.bool true)], args := [d] }
  | _ => none }
def fnExactPlaceOfRow : OpenClaim := { program := "ytiipnbccfbielaa", sum := "f59ebe2cf582167bf8885be1a77d980716e40561297d9e703b94d2b46f1ff9e1", func := "loop.example/g01344/laws.FnExactPlaceOf", spec := "fnExactPlaceOf", apart := false }
def FnExactPlaceOfSaid : Prop := fnExactPlaceOfRow.holds Try.pinned (OpenSpec.ofChange fnExactPlaceOfSpec)

/-- ITS FALSE NEIGHBOUR: 'it returns false'. Refute it at one input. -/
def fnExactPlaceOfWrong : ChangeSpec := { name := "fnExactPlaceOf", fn := fun _ => fun
  | [d] => { results := [.lit (.bool false)], args := [d] }
  | _ => none }
def FnExactPlaceOfWrongFalsely : Prop := fnExactPlaceOfRow.holds Try.pinned (OpenSpec.ofChange fnExactPlaceOfWrong)

/-- 'laws.FnExactValidLine': WHATEVER THE INPUT: true; the input reads as it did. -/
def fnExactValidLineSpec : ChangeSpec := { name := "fnExactValidLine", fn := fun _ => fun
  | [d] => { results := [.lit (.bool true)], args := [d] }
  | _ => none }
def fnExactValidLineRow : OpenClaim := { program := "ytiipnbccfbielaa", sum := "f59ebe2cf582167bf8885be1a77d980716e40561297d9e703b94d2b46f1ff9e1", func := "loop.example/g01344/laws.FnExactValidLine", spec := "fnExactValidLine", apart := false }
def FnExactValidLineSaid : Prop := fnExactValidLineRow.holds Try.pinned (OpenSpec.ofChange fnExactValidLineSpec)

/-- ITS FALSE NEIGHBOUR: 'it returns false'. Refute it at one input. -/
def fnExactValidLineWrong : ChangeSpec := { name := "fnExactValidLine", fn := fun _ => fun
  | [d] => { results := [.lit (.bool false)], args := [d] }
  | _ => none }
def FnExactValidLineWrongFalsely : Prop := fnExactValidLineRow.holds Try.pinned (OpenSpec.ofChange fnExactValidLineWrong)

/-- 'laws.FnExactSwingsOf': WHATEVER THE INPUT: true; the input reads as it did. -/
def fnExactSwingsOfSpec : ChangeSpec := { name := "fnExactSwingsOf", fn := fun _ => fun
  | [d] => { results := [.lit (.bool true)], args := [d] }
  | _ => none }
def fnExactSwingsOfRow : OpenClaim := { program := "ytiipnbccfbielaa", sum := "f59ebe2cf582167bf8885be1a77d980716e40561297d9e703b94d2b46f1ff9e1", func := "loop.example/g01344/laws.FnExactSwingsOf", spec := "fnExactSwingsOf", apart := false }
def FnExactSwingsOfSaid : Prop := fnExactSwingsOfRow.holds Try.pinned (OpenSpec.ofChange fnExactSwingsOfSpec)

/-- ITS FALSE NEIGHBOUR: 'it returns false'. Refute it at one input. -/
def fnExactSwingsOfWrong : ChangeSpec := { name := "fnExactSwingsOf", fn := fun _ => fun
  | [d] => { results := [.lit (.bool false)], args := [d] }
  | _ => none }
def FnExactSwingsOfWrongFalsely : Prop := fnExactSwingsOfRow.holds Try.pinned (OpenSpec.ofChange fnExactSwingsOfWrong)

/-- 'laws.FnExactStrongestSwing': WHATEVER THE INPUT: true; the input reads as it did. -/
def fnExactStrongestSwingSpec : ChangeSpec := { name := "fnExactStrongestSwing", fn := fun _ => fun
  | [d] => { results := [.lit (.bool true)], args := [d] }
  | _ => none }
def fnExactStrongestSwingRow : OpenClaim := { program := "ytiipnbccfbielaa", sum := "f59ebe2cf582167bf8885be1a77d980716e40561297d9e703b94d2b46f1ff9e1", func := "loop.example/g01344/laws.FnExactStrongestSwing", spec := "fnExactStrongestSwing", apart := false }
def FnExactStrongestSwingSaid : Prop := fnExactStrongestSwingRow.holds Try.pinned (OpenSpec.ofChange fnExactStrongestSwingSpec)

/-- ITS FALSE NEIGHBOUR: 'it returns false'. Refute it at one input. -/
def fnExactStrongestSwingWrong : ChangeSpec := { name := "fnExactStrongestSwing", fn := fun _ => fun
  | [d] => { results := [.lit (.bool false)], args := [d] }
  | _ => none }
def FnExactStrongestSwingWrongFalsely : Prop := fnExactStrongestSwingRow.holds Try.pinned (OpenSpec.ofChange fnExactStrongestSwingWrong)

/-- 'laws.FnExactAnswerOf': WHATEVER THE INPUT: true; the input reads as it did. -/
def fnExactAnswerOfSpec : ChangeSpec := { name := "fnExactAnswerOf", fn := fun _ => fun
  | [d1, d2] => { results := [.lit (.bool true)], args := [d1, d2] }
  | _ => none }
def fnExactAnswerOfRow : OpenClaim := { program := "ytiipnbccfbielaa", sum := "f59ebe2cf582167bf8885be1a77d980716e40561297d9e703b94d2b46f1ff9e1", func := "loop.example/g01344/laws.FnExactAnswerOf", spec := "fnExactAnswerOf", apart := false }
def FnExactAnswerOfSaid : Prop := fnExactAnswerOfRow.holds Try.pinned (OpenSpec.ofChange fnExactAnswerOfSpec)

/-- ITS FALSE NEIGHBOUR: 'it returns false'. Refute it at one input. -/
def fnExactAnswerOfWrong : ChangeSpec := { name := "fnExactAnswerOf", fn := fun _ => fun
  | [d1, d2] => { results := [.lit (.bool false)], args := [d1, d2] }
  | _ => none }
def FnExactAnswerOfWrongFalsely : Prop := fnExactAnswerOfRow.holds Try.pinned (OpenSpec.ofChange fnExactAnswerOfWrong)

/-- 'laws.FnExactCrossingsOf': WHATEVER THE INPUT: true; the input reads as it did. -/
def fnExactCrossingsOfSpec : ChangeSpec := { name := "fnExactCrossingsOf", fn := fun _ => fun
  | [d1, d2] => { results := [.lit (.bool true)], args := [d1, d2] }
  | _ => none }
def fnExactCrossingsOfRow : OpenClaim := { program := "ytiipnbccfbielaa", sum := "f59ebe2cf582167bf8885be1a77d980716e40561297d9e703b94d2b46f1ff9e1", func := "loop.example/g01344/laws.FnExactCrossingsOf", spec := "fnExactCrossingsOf", apart := false }
def FnExactCrossingsOfSaid : Prop := fnExactCrossingsOfRow.holds Try.pinned (OpenSpec.ofChange fnExactCrossingsOfSpec)

/-- ITS FALSE NEIGHBOUR: 'it returns false'. Refute it at one input. -/
def fnExactCrossingsOfWrong : ChangeSpec := { name := "fnExactCrossingsOf", fn := fun _ => fun
  | [d1, d2] => { results := [.lit (.bool false)], args := [d1, d2] }
  | _ => none }
def FnExactCrossingsOfWrongFalsely : Prop := fnExactCrossingsOfRow.holds Try.pinned (OpenSpec.ofChange fnExactCrossingsOfWrong)

/-- 'laws.FnExactLoneSpeed': WHATEVER THE INPUT: true; the input reads as it did. -/
def fnExactLoneSpeedSpec : ChangeSpec := { name := "fnExactLoneSpeed", fn := fun _ => fun
  | [d1, d2, d3] => { results := [.lit (.bool true)], args := [d1, d2, d3] }
  | _ => none }
def fnExactLoneSpeedRow : OpenClaim := { program := "ytiipnbccfbielaa", sum := "f59ebe2cf582167bf8885be1a77d980716e40561297d9e703b94d2b46f1ff9e1", func := "loop.example/g01344/laws.FnExactLoneSpeed", spec := "fnExactLoneSpeed", unfollowed := true, recurses := true, apart := false }
def FnExactLoneSpeedSaid : Prop := fnExactLoneSpeedRow.holds Try.pinned (OpenSpec.ofChange fnExactLoneSpeedSpec)

/-- ITS FALSE NEIGHBOUR: 'it returns false'. Refute it at one input. -/
def fnExactLoneSpeedWrong : ChangeSpec := { name := "fnExactLoneSpeed", fn := fun _ => fun
  | [d1, d2, d3] => { results := [.lit (.bool false)], args := [d1, d2, d3] }
  | _ => none }
def FnExactLoneSpeedWrongFalsely : Prop := fnExactLoneSpeedRow.holds Try.pinned (OpenSpec.ofChange fnExactLoneSpeedWrong)

/-- 'laws.FnLines': WHATEVER THE INPUT: true; the input reads as it did. -/
def fnLinesSpec : ChangeSpec := { name := "fnLines", fn := fun _ => fun
  | [d1, d2] => { results := [.lit (.bool true)], args := [d1, d2] }
  | _ => none }
def fnLinesRow : OpenClaim := { program := "ytiipnbccfbielaa", sum := "f59ebe2cf582167bf8885be1a77d980716e40561297d9e703b94d2b46f1ff9e1", func := "loop.example/g01344/laws.FnLines", spec := "fnLines", inPlace := ["math.Float32bits"], unfollowed := true, recurses := true, apart := false }
def FnLinesSaid : Prop := fnLinesRow.holds Try.pinned (OpenSpec.ofChange fnLinesSpec)

/-- ITS FALSE NEIGHBOUR: 'it returns false'. Refute it at one input. -/
def fnLinesWrong : ChangeSpec := { name := "fnLines", fn := fun _ => fun
  | [d1, d2] => { results := [.lit (.bool false)], args := [d1, d2] }
  | _ => none }
def FnLinesWrongFalsely : Prop := fnLinesRow.holds Try.pinned (OpenSpec.ofChange fnLinesWrong)

/-- 'laws.FnBalance': WHATEVER THE INPUT: true; the input reads as it did. -/
def fnBalanceSpec : ChangeSpec := { name := "fnBalance", fn := fun _ => fun
  | [d1, d2] => { results := [.lit (.bool true)], args := [d1, d2] }
  | _ => none }
def fnBalanceRow : OpenClaim := { program := "ytiipnbccfbielaa", sum := "f59ebe2cf582167bf8885be1a77d980716e40561297d9e703b94d2b46f1ff9e1", func := "loop.example/g01344/laws.FnBalance", spec := "fnBalance", inPlace := ["math.Float32bits"], apart := false }
def FnBalanceSaid : Prop := fnBalanceRow.holds Try.pinned (OpenSpec.ofChange fnBalanceSpec)

/-- ITS FALSE NEIGHBOUR: 'it returns false'. Refute it at one input. -/
def fnBalanceWrong : ChangeSpec := { name := "fnBalance", fn := fun _ => fun
  | [d1, d2] => { results := [.lit (.bool false)], args := [d1, d2] }
  | _ => none }
def FnBalanceWrongFalsely : Prop := fnBalanceRow.holds Try.pinned (OpenSpec.ofChange fnBalanceWrong)

/- THE SECOND FORM. 'bulk': how many values and letters a reading holds, each counted each time it is reached (what is shared counts as often as it is met; a slice's spare places count too). A statement '..UptoSaid' is the law's where the arguments, and the package variables that the reading takes, are together of bulk at most 1048576: NARROWER than '..Said'. Prove '..Said' where nothing that the law and all that it calls make is longer than what came in: it says more and counts as full. Else prove '..UptoSaid'. A law counts once. -/
mutual
def uptoBulk {H : Type} : DataW H → Nat
  | .lit (.string bytes) => bytes.length + 1
  | .lit _ => 1
  | .nil => 1
  | .ptr d => uptoBulk d + 1
  | .slice elems spare => uptoBulkAll elems + uptoBulkAll spare + 1
  | .agg parts => uptoBulkAll parts + 1
  | .iface _ d => uptoBulk d + 1
  | .map entries => uptoBulkEntries entries + 1
  | .held _ => 1
def uptoBulkAll {H : Type} : List (DataW H) → Nat
  | [] => 0
  | d :: r => uptoBulk d + uptoBulkAll r
def uptoBulkEntries {H : Type} : List (Lit × DataW H) → Nat
  | [] => 0
  | x :: r => uptoBulkEntry x + uptoBulkEntries r
def uptoBulkEntry {H : Type} : Lit × DataW H → Nat
  | (.string bytes, d) => bytes.length + uptoBulk d + 1
  | (_, d) => uptoBulk d + 1
 end
def uptoSmall : (H : Type) → List (DataW H) → Bool := fun _ ds => decide (uptoBulkAll ds ≤ 1048576)
def OpenSpec.upto (s : _root_.Go.ChangeSpec) : _root_.Go.OpenSpec := { _root_.Go.OpenSpec.ofChange s with cond := some uptoSmall }

/-- 'laws.FnExactPlaceOf', WHERE WHAT IT READS IS OF BULK AT MOST 1048576: true; the input reads as it did. -/
def fnExactPlaceOfUptoRow : OpenClaim := { program := "ytiipnbccfbielaa", sum := "f59ebe2cf582167bf8885be1a77d980716e40561297d9e703b94d2b46f1ff9e1", func := "loop.example/g01344/laws.FnExactPlaceOf", spec := "fnExactPlaceOf", apart := false, narrowed := true }
def FnExactPlaceOfUptoSaid : Prop := fnExactPlaceOfUptoRow.holds Try.pinned (OpenSpec.upto fnExactPlaceOfSpec)

/-- 'laws.FnExactValidLine', WHERE WHAT IT READS IS OF BULK AT MOST 1048576: true; the input reads as it did. -/
def fnExactValidLineUptoRow : OpenClaim := { program := "ytiipnbccfbielaa", sum := "f59ebe2cf582167bf8885be1a77d980716e40561297d9e703b94d2b46f1ff9e1", func := "loop.example/g01344/laws.FnExactValidLine", spec := "fnExactValidLine", apart := false, narrowed := true }
def FnExactValidLineUptoSaid : Prop := fnExactValidLineUptoRow.holds Try.pinned (OpenSpec.upto fnExactValidLineSpec)

/-- 'laws.FnExactSwingsOf', WHERE WHAT IT READS IS OF BULK AT MOST 1048576: true; the input reads as it did. -/
def fnExactSwingsOfUptoRow : OpenClaim := { program := "ytiipnbccfbielaa", sum := "f59ebe2cf582167bf8885be1a77d980716e40561297d9e703b94d2b46f1ff9e1", func := "loop.example/g01344/laws.FnExactSwingsOf", spec := "fnExactSwingsOf", apart := false, narrowed := true }
def FnExactSwingsOfUptoSaid : Prop := fnExactSwingsOfUptoRow.holds Try.pinned (OpenSpec.upto fnExactSwingsOfSpec)

/-- 'laws.FnExactStrongestSwing', WHERE WHAT IT READS IS OF BULK AT MOST 1048576: true; the input reads as it did. -/
def fnExactStrongestSwingUptoRow : OpenClaim := { program := "ytiipnbccfbielaa", sum := "f59ebe2cf582167bf8885be1a77d980716e40561297d9e703b94d2b46f1ff9e1", func := "loop.example/g01344/laws.FnExactStrongestSwing", spec := "fnExactStrongestSwing", apart := false, narrowed := true }
def FnExactStrongestSwingUptoSaid : Prop := fnExactStrongestSwingUptoRow.holds Try.pinned (OpenSpec.upto fnExactStrongestSwingSpec)

/-- 'laws.FnExactAnswerOf', WHERE WHAT IT READS IS OF BULK AT MOST 1048576: true; the input reads as it did. -/
def fnExactAnswerOfUptoRow : OpenClaim := { program := "ytiipnbccfbielaa", sum := "f59ebe2cf582167bf8885be1a77d980716e40561297d9e703b94d2b46f1ff9e1", func := "loop.example/g01344/laws.FnExactAnswerOf", spec := "fnExactAnswerOf", apart := false, narrowed := true }
def FnExactAnswerOfUptoSaid : Prop := fnExactAnswerOfUptoRow.holds Try.pinned (OpenSpec.upto fnExactAnswerOfSpec)

/-- 'laws.FnExactCrossingsOf', WHERE WHAT IT READS IS OF BULK AT MOST 1048576: true; the input reads as it did. -/
def fnExactCrossingsOfUptoRow : OpenClaim := { program := "ytiipnbccfbielaa", sum := "f59ebe2cf582167bf8885be1a77d980716e40561297d9e703b94d2b46f1ff9e1", func := "loop.example/g01344/laws.FnExactCrossingsOf", spec := "fnExactCrossingsOf", apart := false, narrowed := true }
def FnExactCrossingsOfUptoSaid : Prop := fnExactCrossingsOfUptoRow.holds Try.pinned (OpenSpec.upto fnExactCrossingsOfSpec)

/-- 'laws.FnExactLoneSpeed', WHERE WHAT IT READS IS OF BULK AT MOST 1048576: true; the input reads as it did. -/
def fnExactLoneSpeedUptoRow : OpenClaim := { program := "ytiipnbccfbielaa", sum := "f59ebe2cf582167bf8885be1a77d980716e40561297d9e703b94d2b46f1ff9e1", func := "loop.example/g01344/laws.FnExactLoneSpeed", spec := "fnExactLoneSpeed", unfollowed := true, recurses := true, apart := false, narrowed := true }
def FnExactLoneSpeedUptoSaid : Prop := fnExactLoneSpeedUptoRow.holds Try.pinned (OpenSpec.upto fnExactLoneSpeedSpec)

/-- 'laws.FnLines', WHERE WHAT IT READS IS OF BULK AT MOST 1048576: true; the input reads as it did. -/
def fnLinesUptoRow : OpenClaim := { program := "ytiipnbccfbielaa", sum := "f59ebe2cf582167bf8885be1a77d980716e40561297d9e703b94d2b46f1ff9e1", func := "loop.example/g01344/laws.FnLines", spec := "fnLines", inPlace := ["math.Float32bits"], unfollowed := true, recurses := true, apart := false, narrowed := true }
def FnLinesUptoSaid : Prop := fnLinesUptoRow.holds Try.pinned (OpenSpec.upto fnLinesSpec)

/-- 'laws.FnBalance', WHERE WHAT IT READS IS OF BULK AT MOST 1048576: true; the input reads as it did. -/
def fnBalanceUptoRow : OpenClaim := { program := "ytiipnbccfbielaa", sum := "f59ebe2cf582167bf8885be1a77d980716e40561297d9e703b94d2b46f1ff9e1", func := "loop.example/g01344/laws.FnBalance", spec := "fnBalance", inPlace := ["math.Float32bits"], apart := false, narrowed := true }
def FnBalanceUptoSaid : Prop := fnBalanceUptoRow.holds Try.pinned (OpenSpec.upto fnBalanceSpec)

end Rows
end Go.Proofs.Ytiipnbccfbielaa
