/-
  No cell of these rows narrows 'for every input' (looked for: loops, veiled, ifaces, maps, wideKeys, modest, calm, conditions, laid).
  DERIVED. THE GIVEN ROWS OF THIS SEAT. 8 by the template 'for every input the law returns true; each argument reads behind the call as it read before'; 0 by the template 'total and deterministic' (their statements: YtegplbjgoodokaaTotals.lean).
  GIVEN WITH THE SEED: the statements are not yours to turn. If you find one false, say at which input.
  Laid BY PROGRAM, IN A SANDBOX (cutbox-rows.mjs): the forced cells as the released guide's own fill.sh prints them over the translation cf5b3f31c9a0e637… (all of the seat's roots in one cut). By AI agents, Wed Nov 11 2026. No macro, syntax, notation, axiom, sorry.
-/
import Derived.Test.YtegplbjgoodokaaChecked
import GoSem.Claim
import GoSem.ClaimJoined
import GoSem.ClaimMapViews
import Derived.JoinedTies
import Derived.KernelRfl
namespace Go.Proofs.Ytegplbjgoodokaa
/- THE CELL 'sum', in the pinned program and in every row, IS THE sha256 OF THE DUMP (.gsa) THAT YtegplbjgoodokaaProg.lean LOADS. Nothing in Lean hashes anything: it is a label: what it is worth is what the hold of that sum in a sandbox is worth. -/
noncomputable def Try.pinned : Pinned := { name := "ytegplbjgoodokaa", sum := "cf5b3f31c9a0e63741a3695f36802d484901e3203d2f7498524c0ac9f9cff292", checked := Try.checked }
namespace Rows
def none {H : Type} : Left H := { results := [], args := [] }

/-- 'laws.FnExactValidTooth': WHATEVER THE INPUT: true; the input reads as it did. -/
def fnExactValidToothSpec : ChangeSpec := { name := "fnExactValidTooth", fn := fun _ => fun
  | [d] => { results := [.lit (.bool true)], args := [d] }
  | _ => none }
def fnExactValidToothRow : OpenClaim := { program := "ytegplbjgoodokaa", sum := "cf5b3f31c9a0e63741a3695f36802d484901e3203d2f7498524c0ac9f9cff292", func := "loop.example/g01344/laws.FnExactValidTooth", spec := "fnExactValidTooth", apart := false }
def FnExactValidToothSaid : Prop := fnExactValidToothRow.holds Try.pinned (OpenSpec.ofChange fnExactValidToothSpec)

/-- ITS FALSE NEIGHBOUR: 'it returns false'. Refute it at one input. -/
def fnExactValidToothWrong : ChangeSpec := { name := "fnExactValidTooth", fn := fun _ => fun
  | [d] => { results := [.lit (.bool false)], args := [d] }
  | _ => none }
def FnExactValidToothWrongFalsely : Prop := fnExactValidToothRow.holds Try.pinned (OpenSpec.ofChange fnExactValidToothWrong)

/-- 'laws.FnExactSameTooth': WHATEVER THE INPUT: true; the input reads as it did. -/
def fnExactSameToothSpec : ChangeSpec := { name := "fnExactSameTooth", fn := fun _ => fun
  | [d1, d2] => { results := [.lit (.bool true)], args := [d1, d2] }
  | _ => none }
def fnExactSameToothRow : OpenClaim := { program := "ytegplbjgoodokaa", sum := "cf5b3f31c9a0e63741a3695f36802d484901e3203d2f7498524c0ac9f9cff292", func := "loop.example/g01344/laws.FnExactSameTooth", spec := "fnExactSameTooth", inPlace := ["math.Float32bits"], apart := false }
def FnExactSameToothSaid : Prop := fnExactSameToothRow.holds Try.pinned (OpenSpec.ofChange fnExactSameToothSpec)

/-- ITS FALSE NEIGHBOUR: 'it returns false'. Refute it at one input. -/
def fnExactSameToothWrong : ChangeSpec := { name := "fnExactSameTooth", fn := fun _ => fun
  | [d1, d2] => { results := [.lit (.bool false)], args := [d1, d2] }
  | _ => none }
def FnExactSameToothWrongFalsely : Prop := fnExactSameToothRow.holds Try.pinned (OpenSpec.ofChange fnExactSameToothWrong)

/-- 'laws.FnExactWearOf': WHATEVER THE INPUT: true; the input reads as it did. -/
def fnExactWearOfSpec : ChangeSpec := { name := "fnExactWearOf", fn := fun _ => fun
  | [d] => { results := [.lit (.bool true)], args := [d] }
  | _ => none }
def fnExactWearOfRow : OpenClaim := { program := "ytegplbjgoodokaa", sum := "cf5b3f31c9a0e63741a3695f36802d484901e3203d2f7498524c0ac9f9cff292", func := "loop.example/g01344/laws.FnExactWearOf", spec := "fnExactWearOf", apart := false }
def FnExactWearOfSaid : Prop := fnExactWearOfRow.holds Try.pinned (OpenSpec.ofChange fnExactWearOfSpec)

/-- ITS FALSE NEIGHBOUR: 'it returns false'. Refute it at one input. -/
def fnExactWearOfWrong : ChangeSpec := { name := "fnExactWearOf", fn := fun _ => fun
  | [d] => { results := [.lit (.bool false)], args := [d] }
  | _ => none }
def FnExactWearOfWrongFalsely : Prop := fnExactWearOfRow.holds Try.pinned (OpenSpec.ofChange fnExactWearOfWrong)

/-- 'laws.FnExactNewTooth': WHATEVER THE INPUT: true; the input reads as it did. -/
def fnExactNewToothSpec : ChangeSpec := { name := "fnExactNewTooth", fn := fun _ => fun
  | [d] => { results := [.lit (.bool true)], args := [d] }
  | _ => none }
def fnExactNewToothRow : OpenClaim := { program := "ytegplbjgoodokaa", sum := "cf5b3f31c9a0e63741a3695f36802d484901e3203d2f7498524c0ac9f9cff292", func := "loop.example/g01344/laws.FnExactNewTooth", spec := "fnExactNewTooth", apart := false }
def FnExactNewToothSaid : Prop := fnExactNewToothRow.holds Try.pinned (OpenSpec.ofChange fnExactNewToothSpec)

/-- ITS FALSE NEIGHBOUR: 'it returns false'. Refute it at one input. -/
def fnExactNewToothWrong : ChangeSpec := { name := "fnExactNewTooth", fn := fun _ => fun
  | [d] => { results := [.lit (.bool false)], args := [d] }
  | _ => none }
def FnExactNewToothWrongFalsely : Prop := fnExactNewToothRow.holds Try.pinned (OpenSpec.ofChange fnExactNewToothWrong)

/-- 'laws.FnExactCountChanges': WHATEVER THE INPUT: true; the input reads as it did. -/
def fnExactCountChangesSpec : ChangeSpec := { name := "fnExactCountChanges", fn := fun _ => fun
  | [d] => { results := [.lit (.bool true)], args := [d] }
  | _ => none }
def fnExactCountChangesRow : OpenClaim := { program := "ytegplbjgoodokaa", sum := "cf5b3f31c9a0e63741a3695f36802d484901e3203d2f7498524c0ac9f9cff292", func := "loop.example/g01344/laws.FnExactCountChanges", spec := "fnExactCountChanges", apart := false }
def FnExactCountChangesSaid : Prop := fnExactCountChangesRow.holds Try.pinned (OpenSpec.ofChange fnExactCountChangesSpec)

/-- ITS FALSE NEIGHBOUR: 'it returns false'. Refute it at one input. -/
def fnExactCountChangesWrong : ChangeSpec := { name := "fnExactCountChanges", fn := fun _ => fun
  | [d] => { results := [.lit (.bool false)], args := [d] }
  | _ => none }
def FnExactCountChangesWrongFalsely : Prop := fnExactCountChangesRow.holds Try.pinned (OpenSpec.ofChange fnExactCountChangesWrong)

/-- 'laws.FnExactTurnTooth': WHATEVER THE INPUT: true; the input reads as it did. -/
def fnExactTurnToothSpec : ChangeSpec := { name := "fnExactTurnTooth", fn := fun _ => fun
  | [d] => { results := [.lit (.bool true)], args := [d] }
  | _ => none }
def fnExactTurnToothRow : OpenClaim := { program := "ytegplbjgoodokaa", sum := "cf5b3f31c9a0e63741a3695f36802d484901e3203d2f7498524c0ac9f9cff292", func := "loop.example/g01344/laws.FnExactTurnTooth", spec := "fnExactTurnTooth", apart := false }
def FnExactTurnToothSaid : Prop := fnExactTurnToothRow.holds Try.pinned (OpenSpec.ofChange fnExactTurnToothSpec)

/-- ITS FALSE NEIGHBOUR: 'it returns false'. Refute it at one input. -/
def fnExactTurnToothWrong : ChangeSpec := { name := "fnExactTurnTooth", fn := fun _ => fun
  | [d] => { results := [.lit (.bool false)], args := [d] }
  | _ => none }
def FnExactTurnToothWrongFalsely : Prop := fnExactTurnToothRow.holds Try.pinned (OpenSpec.ofChange fnExactTurnToothWrong)

/-- 'laws.FnExactWeeksUntil': WHATEVER THE INPUT: true; the input reads as it did. -/
def fnExactWeeksUntilSpec : ChangeSpec := { name := "fnExactWeeksUntil", fn := fun _ => fun
  | [d1, d2, d3] => { results := [.lit (.bool true)], args := [d1, d2, d3] }
  | _ => none }
def fnExactWeeksUntilRow : OpenClaim := { program := "ytegplbjgoodokaa", sum := "cf5b3f31c9a0e63741a3695f36802d484901e3203d2f7498524c0ac9f9cff292", func := "loop.example/g01344/laws.FnExactWeeksUntil", spec := "fnExactWeeksUntil", apart := false }
def FnExactWeeksUntilSaid : Prop := fnExactWeeksUntilRow.holds Try.pinned (OpenSpec.ofChange fnExactWeeksUntilSpec)

/-- ITS FALSE NEIGHBOUR: 'it returns false'. Refute it at one input. -/
def fnExactWeeksUntilWrong : ChangeSpec := { name := "fnExactWeeksUntil", fn := fun _ => fun
  | [d1, d2, d3] => { results := [.lit (.bool false)], args := [d1, d2, d3] }
  | _ => none }
def FnExactWeeksUntilWrongFalsely : Prop := fnExactWeeksUntilRow.holds Try.pinned (OpenSpec.ofChange fnExactWeeksUntilWrong)

/-- 'laws.FnExactWornBy': WHATEVER THE INPUT: true; the input reads as it did. -/
def fnExactWornBySpec : ChangeSpec := { name := "fnExactWornBy", fn := fun _ => fun
  | [d1, d2] => { results := [.lit (.bool true)], args := [d1, d2] }
  | _ => none }
def fnExactWornByRow : OpenClaim := { program := "ytegplbjgoodokaa", sum := "cf5b3f31c9a0e63741a3695f36802d484901e3203d2f7498524c0ac9f9cff292", func := "loop.example/g01344/laws.FnExactWornBy", spec := "fnExactWornBy", apart := false }
def FnExactWornBySaid : Prop := fnExactWornByRow.holds Try.pinned (OpenSpec.ofChange fnExactWornBySpec)

/-- ITS FALSE NEIGHBOUR: 'it returns false'. Refute it at one input. -/
def fnExactWornByWrong : ChangeSpec := { name := "fnExactWornBy", fn := fun _ => fun
  | [d1, d2] => { results := [.lit (.bool false)], args := [d1, d2] }
  | _ => none }
def FnExactWornByWrongFalsely : Prop := fnExactWornByRow.holds Try.pinned (OpenSpec.ofChange fnExactWornByWrong)

/- THE SECOND FORM. 'bulk': how many values and letters a reading holds, each counted each time it is reached (what is shared counts as often as it is met; a slice's spare places count too). A statement '..UptoSaid' is the law's where the arguments, and the package variables that the reading takes, are together of bulk at most 1048576: NARROWER than '..Said'. Prove '..Said' where nothing that the law and all that it calls make is longer than what came in: it says more and counts as full. Else prove '..UptoSaid'. A law counts once. -/
mutual
def uptoBulk {H : Type} : DataW H → Nat
  | .lit (.string bytes) => bytes.length + 1
  | .lit _ => 1
  | .nil => 1
  | .ptr d => uptoBulk d + 1
  | .slice elems spare => uptoBulkAll elems + uptoBulkAll spare + 1
  | .agg parts => uptoBulkAll parts + 1
  | .iface _ d => uptoBulk d + 1
  | .map entries => uptoBulkEntries entries + 1
  | .held _ => 1
def uptoBulkAll {H : Type} : List (DataW H) → Nat
  | [] => 0
  | d :: r => uptoBulk d + uptoBulkAll r
def uptoBulkEntries {H : Type} : List (Lit × DataW H) → Nat
  | [] => 0
  | x :: r => uptoBulkEntry x + uptoBulkEntries r
def uptoBulkEntry {H : Type} : Lit × DataW H → Nat
  | (.string bytes, d) => bytes.length + uptoBulk d + 1
  | (_, d) => uptoBulk d + 1
 end
def uptoSmall : (H : Type) → List (DataW H) → Bool := fun _ ds => decide (uptoBulkAll ds ≤ 1048576)
def OpenSpec.upto (s : _root_.Go.ChangeSpec) : _root_.Go.OpenSpec := { _root_.Go.OpenSpec.ofChange s with cond := some uptoSmall }

/-- 'laws.FnExactValidTooth', WHERE WHAT IT READS IS OF BULK AT MOST 1048576: true; the input reads as it did. -/
def fnExactValidToothUptoRow : OpenClaim := { program := "ytegplbjgoodokaa", sum := "cf5b3f31c9a0e63741a3695f36802d484901e3203d2f7498524c0ac9f9cff292", func := "loop.example/g01344/laws.FnExactValidTooth", spec := "fnExactValidTooth", apart := false, narrowed := true }
def FnExactValidToothUptoSaid : Prop := fnExactValidToothUptoRow.holds Try.pinned (OpenSpec.upto fnExactValidToothSpec)

/-- 'laws.FnExactSameTooth', WHERE WHAT IT READS IS OF BULK AT MOST 1048576: true; the input reads as it did. -/
def fnExactSameToothUptoRow : OpenClaim := { program := "ytegplbjgoodokaa", sum := "cf5b3f31c9a0e63741a3695f36802d484901e3203d2f7498524c0ac9f9cff292", func := "loop.example/g01344/laws.FnExactSameTooth", spec := "fnExactSameTooth", inPlace := ["math.Float32bits"], apart := false, narrowed := true }
def FnExactSameToothUptoSaid : Prop := fnExactSameToothUptoRow.holds Try.pinned (OpenSpec.upto fnExactSameToothSpec)

/-- 'laws.FnExactWearOf', WHERE WHAT IT READS IS OF BULK AT MOST 1048576: true; the input reads as it did. -/
def fnExactWearOfUptoRow : OpenClaim := { program := "ytegplbjgoodokaa", sum := "cf5b3f31c9a0e63741a3695f36802d484901e3203d2f7498524c0ac9f9cff292", func := "loop.example/g01344/laws.FnExactWearOf", spec := "fnExactWearOf", apart := false, narrowed := true }
def FnExactWearOfUptoSaid : Prop := fnExactWearOfUptoRow.holds Try.pinned (OpenSpec.upto fnExactWearOfSpec)

/-- 'laws.FnExactNewTooth', WHERE WHAT IT READS IS OF BULK AT MOST 1048576: true; the input reads as it did. -/
def fnExactNewToothUptoRow : OpenClaim := { program := "ytegplbjgoodokaa", sum := "cf5b3f31c9a0e63741a3695f36802d484901e3203d2f7498524c0ac9f9cff292", func := "loop.example/g01344/laws.FnExactNewTooth", spec := "fnExactNewTooth", apart := false, narrowed := true }
def FnExactNewToothUptoSaid : Prop := fnExactNewToothUptoRow.holds Try.pinned (OpenSpec.upto fnExactNewToothSpec)

/-- 'laws.FnExactCountChanges', WHERE WHAT IT READS IS OF BULK AT MOST 1048576: true; the input reads as it did. -/
def fnExactCountChangesUptoRow : OpenClaim := { program := "ytegplbjgoodokaa", sum := "cf5b3f31c9a0e63741a3695f36802d484901e3203d2f7498524c0ac9f9cff292", func := "loop.example/g01344/laws.FnExactCountChanges", spec := "fnExactCountChanges", apart := false, narrowed := true }
def FnExactCountChangesUptoSaid : Prop := fnExactCountChangesUptoRow.holds Try.pinned (OpenSpec.upto fnExactCountChangesSpec)

/-- 'laws.FnExactTurnTooth', WHERE WHAT IT READS IS OF BULK AT MOST 1048576: true; the input reads as it did. -/
def fnExactTurnToothUptoRow : OpenClaim := { program := "ytegplbjgoodokaa", sum := "cf5b3f31c9a0e63741a3695f36802d484901e3203d2f7498524c0ac9f9cff292", func := "loop.example/g01344/laws.FnExactTurnTooth", spec := "fnExactTurnTooth", apart := false, narrowed := true }
def FnExactTurnToothUptoSaid : Prop := fnExactTurnToothUptoRow.holds Try.pinned (OpenSpec.upto fnExactTurnToothSpec)

/-- 'laws.FnExactWeeksUntil', WHERE WHAT IT READS IS OF BULK AT MOST 1048576: true; the input reads as it did. -/
def fnExactWeeksUntilUptoRow : OpenClaim := { program := "ytegplbjgoodokaa", sum := "cf5b3f31c9a0e63741a3695f36802d484901e3203d2f7498524c0ac9f9cff292", func := "loop.example/g01344/laws.FnExactWeeksUntil", spec := "fnExactWeeksUntil", apart := false, narrowed := true }
def FnExactWeeksUntilUptoSaid : Prop := fnExactWeeksUntilUptoRow.holds Try.pinned (OpenSpec.upto fnExactWeeksUntilSpec)

/-- 'laws.FnExactWornBy', WHERE WHAT IT READS IS OF BULK AT MOST 1048576: true; the input reads as it did. -/
def fnExactWornByUptoRow : OpenClaim := { program := "ytegplbjgoodokaa", sum := "cf5b3f31c9a0e63741a3695f36802d484901e3203d2f7498524c0ac9f9cff292", func := "loop.example/g01344/laws.FnExactWornBy", spec := "fnExactWornBy", apart := false, narrowed := true }
def FnExactWornByUptoSaid : Prop := fnExactWornByUptoRow.holds Try.pinned (OpenSpec.upto fnExactWornBySpec)

end Rows
end Go.Proofs.Ytegplbjgoodokaa
