/-
  No cell of these rows narrows 'for every input' (looked for: loops, veiled, ifaces, maps, wideKeys, modest, calm, conditions, laid).
  DERIVED. THE GIVEN ROWS OF THIS SEAT. 5 by the template 'for every input the law returns true; each argument reads behind the call as it read before'; 0 by the template 'total and deterministic' (their statements: YtgpmmpgbghjieaaTotals.lean).
  GIVEN WITH THE SEED: the statements are not yours to turn. If you find one false, say at which input.
  Laid BY PROGRAM, IN A SANDBOX (cutbox-rows.mjs): the forced cells as the released guide's own fill.sh prints them over the translation 84147158976b52cf… (all of the seat's roots in one cut). By AI agents, Wed Nov 11 2026. No macro, syntax, notation, axiom, sorry.
-/
import Derived.Test.YtgpmmpgbghjieaaChecked
import GoSem.Claim
import GoSem.ClaimJoined
import GoSem.ClaimMapViews
import Derived.JoinedTies
import Derived.KernelRfl
namespace Go.Proofs.Ytgpmmpgbghjieaa
/- THE CELL 'sum', in the pinned program and in every row, IS THE sha256 OF THE DUMP (.gsa) THAT YtgpmmpgbghjieaaProg.lean LOADS. Nothing in Lean hashes anything: it is a label: what it is worth is what the hold of that sum in a sandbox is worth. -/
noncomputable def Try.pinned : Pinned := { name := "ytgpmmpgbghjieaa", sum := "84147158976b52cfb28cb9faf51438d987b68c2088722b09c17ce10745ccfa52", checked := Try.checked }
namespace Rows
def none {H : Type} : Left H := { results := [], args := [] }

/-- 'laws.FnExactPlaysOf': WHATEVER THE INPUT: true; the input reads as it did. -/
def fnExactPlaysOfSpec : ChangeSpec := { name := "fnExactPlaysOf", fn := fun _ => fun
  | [d1, d2] => { results := [.lit (.bool true)], args := [d1, d2] }
  | _ => none }
def fnExactPlaysOfRow : OpenClaim := { program := "ytgpmmpgbghjieaa", sum := "84147158976b52cfb28cb9faf51438d987b68c2088722b09c17ce10745ccfa52", func := "loop.example/g01344/laws.FnExactPlaysOf", spec := "fnExactPlaysOf", unfollowed := true, recurses := true, apart := false }
def FnExactPlaysOfSaid : Prop := fnExactPlaysOfRow.holds Try.pinned (OpenSpec.ofChange fnExactPlaysOfSpec)

/-- ITS FALSE NEIGHBOUR: 'it returns false'. Refute it at one input. -/
def fnExactPlaysOfWrong : ChangeSpec := { name := "fnExactPlaysOf", fn := fun _ => fun
  | [d1, d2] => { results := [.lit (.bool false)], args := [d1, d2] }
  | _ => none }
def FnExactPlaysOfWrongFalsely : Prop := fnExactPlaysOfRow.holds Try.pinned (OpenSpec.ofChange fnExactPlaysOfWrong)

/-- 'laws.FnExactQuietWeeks': WHATEVER THE INPUT: true; the input reads as it did. -/
def fnExactQuietWeeksSpec : ChangeSpec := { name := "fnExactQuietWeeks", fn := fun _ => fun
  | [d1, d2, d3, d4] => { results := [.lit (.bool true)], args := [d1, d2, d3, d4] }
  | _ => none }
def fnExactQuietWeeksRow : OpenClaim := { program := "ytgpmmpgbghjieaa", sum := "84147158976b52cfb28cb9faf51438d987b68c2088722b09c17ce10745ccfa52", func := "loop.example/g01344/laws.FnExactQuietWeeks", spec := "fnExactQuietWeeks", unfollowed := true, recurses := true, apart := false }
def FnExactQuietWeeksSaid : Prop := fnExactQuietWeeksRow.holds Try.pinned (OpenSpec.ofChange fnExactQuietWeeksSpec)

/-- ITS FALSE NEIGHBOUR: 'it returns false'. Refute it at one input. -/
def fnExactQuietWeeksWrong : ChangeSpec := { name := "fnExactQuietWeeks", fn := fun _ => fun
  | [d1, d2, d3, d4] => { results := [.lit (.bool false)], args := [d1, d2, d3, d4] }
  | _ => none }
def FnExactQuietWeeksWrongFalsely : Prop := fnExactQuietWeeksRow.holds Try.pinned (OpenSpec.ofChange fnExactQuietWeeksWrong)

/-- 'laws.FnExactWeekOf': WHATEVER THE INPUT: true; the input reads as it did. -/
def fnExactWeekOfSpec : ChangeSpec := { name := "fnExactWeekOf", fn := fun _ => fun
  | [d1, d2, d3, d4] => { results := [.lit (.bool true)], args := [d1, d2, d3, d4] }
  | _ => none }
def fnExactWeekOfRow : OpenClaim := { program := "ytgpmmpgbghjieaa", sum := "84147158976b52cfb28cb9faf51438d987b68c2088722b09c17ce10745ccfa52", func := "loop.example/g01344/laws.FnExactWeekOf", spec := "fnExactWeekOf", unfollowed := true, recurses := true, apart := false }
def FnExactWeekOfSaid : Prop := fnExactWeekOfRow.holds Try.pinned (OpenSpec.ofChange fnExactWeekOfSpec)

/-- ITS FALSE NEIGHBOUR: 'it returns false'. Refute it at one input. -/
def fnExactWeekOfWrong : ChangeSpec := { name := "fnExactWeekOf", fn := fun _ => fun
  | [d1, d2, d3, d4] => { results := [.lit (.bool false)], args := [d1, d2, d3, d4] }
  | _ => none }
def FnExactWeekOfWrongFalsely : Prop := fnExactWeekOfRow.holds Try.pinned (OpenSpec.ofChange fnExactWeekOfWrong)

/-- 'laws.FnExactYearOf': WHATEVER THE INPUT: true; the input reads as it did. -/
def fnExactYearOfSpec : ChangeSpec := { name := "fnExactYearOf", fn := fun _ => fun
  | [d1, d2, d3, d4] => { results := [.lit (.bool true)], args := [d1, d2, d3, d4] }
  | _ => none }
def fnExactYearOfRow : OpenClaim := { program := "ytgpmmpgbghjieaa", sum := "84147158976b52cfb28cb9faf51438d987b68c2088722b09c17ce10745ccfa52", func := "loop.example/g01344/laws.FnExactYearOf", spec := "fnExactYearOf", unfollowed := true, recurses := true, apart := false }
def FnExactYearOfSaid : Prop := fnExactYearOfRow.holds Try.pinned (OpenSpec.ofChange fnExactYearOfSpec)

/-- ITS FALSE NEIGHBOUR: 'it returns false'. Refute it at one input. -/
def fnExactYearOfWrong : ChangeSpec := { name := "fnExactYearOf", fn := fun _ => fun
  | [d1, d2, d3, d4] => { results := [.lit (.bool false)], args := [d1, d2, d3, d4] }
  | _ => none }
def FnExactYearOfWrongFalsely : Prop := fnExactYearOfRow.holds Try.pinned (OpenSpec.ofChange fnExactYearOfWrong)

/-- 'laws.FnYears': WHATEVER THE INPUT: true; the input reads as it did. -/
def fnYearsSpec : ChangeSpec := { name := "fnYears", fn := fun _ => fun
  | [d1, d2] => { results := [.lit (.bool true)], args := [d1, d2] }
  | _ => none }
def fnYearsRow : OpenClaim := { program := "ytgpmmpgbghjieaa", sum := "84147158976b52cfb28cb9faf51438d987b68c2088722b09c17ce10745ccfa52", func := "loop.example/g01344/laws.FnYears", spec := "fnYears", inPlace := ["math.Float32bits"], unfollowed := true, recurses := true, apart := false }
def FnYearsSaid : Prop := fnYearsRow.holds Try.pinned (OpenSpec.ofChange fnYearsSpec)

/-- ITS FALSE NEIGHBOUR: 'it returns false'. Refute it at one input. -/
def fnYearsWrong : ChangeSpec := { name := "fnYears", fn := fun _ => fun
  | [d1, d2] => { results := [.lit (.bool false)], args := [d1, d2] }
  | _ => none }
def FnYearsWrongFalsely : Prop := fnYearsRow.holds Try.pinned (OpenSpec.ofChange fnYearsWrong)

/- THE SECOND FORM. 'bulk': how many values and letters a reading holds, each counted each time it is reached (what is shared counts as often as it is met; a slice's spare places count too). A statement '..UptoSaid' is the law's where the arguments, and the package variables that the reading takes, are together of bulk at most 1048576: NARROWER than '..Said'. Prove '..Said' where nothing that the law and all that it calls make is longer than what came in: it says more and counts as full. Else prove '..UptoSaid'. A law counts once. -/
mutual
def uptoBulk {H : Type} : DataW H → Nat
  | .lit (.string bytes) => bytes.length + 1
  | .lit _ => 1
  | .nil => 1
  | .ptr d => uptoBulk d + 1
  | .slice elems spare => uptoBulkAll elems + uptoBulkAll spare + 1
  | .agg parts => uptoBulkAll parts + 1
  | .iface _ d => uptoBulk d + 1
  | .map entries => uptoBulkEntries entries + 1
  | .held _ => 1
def uptoBulkAll {H : Type} : List (DataW H) → Nat
  | [] => 0
  | d :: r => uptoBulk d + uptoBulkAll r
def uptoBulkEntries {H : Type} : List (Lit × DataW H) → Nat
  | [] => 0
  | x :: r => uptoBulkEntry x + uptoBulkEntries r
def uptoBulkEntry {H : Type} : Lit × DataW H → Nat
  | (.string bytes, d) => bytes.length + uptoBulk d + 1
  | (_, d) => uptoBulk d + 1
 end
def uptoSmall : (H : Type) → List (DataW H) → Bool := fun _ ds => decide (uptoBulkAll ds ≤ 1048576)
def OpenSpec.upto (s : _root_.Go.ChangeSpec) : _root_.Go.OpenSpec := { _root_.Go.OpenSpec.ofChange s with cond := some uptoSmall }

/-- 'laws.FnExactPlaysOf', WHERE WHAT IT READS IS OF BULK AT MOST 1048576: true; the input reads as it did. -/
def fnExactPlaysOfUptoRow : OpenClaim := { program := "ytgpmmpgbghjieaa", sum := "84147158976b52cfb28cb9faf51438d987b68c2088722b09c17ce10745ccfa52", func := "loop.example/g01344/laws.FnExactPlaysOf", spec := "fnExactPlaysOf", unfollowed := true, recurses := true, apart := false, narrowed := true }
def FnExactPlaysOfUptoSaid : Prop := fnExactPlaysOfUptoRow.holds Try.pinned (OpenSpec.upto fnExactPlaysOfSpec)

/-- 'laws.FnExactQuietWeeks', WHERE WHAT IT READS IS OF BULK AT MOST 1048576: true; the input reads as it did. -/
def fnExactQuietWeeksUptoRow : OpenClaim := { program := "ytgpmmpgbghjieaa", sum := "84147158976b52cfb28cb9faf51438d987b68c2088722b09c17ce10745ccfa52", func := "loop.example/g01344/laws.FnExactQuietWeeks", spec := "fnExactQuietWeeks", unfollowed := true, recurses := true, apart := false, narrowed := true }
def FnExactQuietWeeksUptoSaid : Prop := fnExactQuietWeeksUptoRow.holds Try.pinned (OpenSpec.upto fnExactQuietWeeksSpec)

/-- 'laws.FnExactWeekOf', WHERE WHAT IT READS IS OF BULK AT MOST 1048576: true; the input reads as it did. -/
def fnExactWeekOfUptoRow : OpenClaim := { program := "ytgpmmpgbghjieaa", sum := "84147158976b52cfb28cb9faf51438d987b68c2088722b09c17ce10745ccfa52", func := "loop.example/g01344/laws.FnExactWeekOf", spec := "fnExactWeekOf", unfollowed := true, recurses := true, apart := false, narrowed := true }
def FnExactWeekOfUptoSaid : Prop := fnExactWeekOfUptoRow.holds Try.pinned (OpenSpec.upto fnExactWeekOfSpec)

/-- 'laws.FnExactYearOf', WHERE WHAT IT READS IS OF BULK AT MOST 1048576: true; the input reads as it did. -/
def fnExactYearOfUptoRow : OpenClaim := { program := "ytgpmmpgbghjieaa", sum := "84147158976b52cfb28cb9faf51438d987b68c2088722b09c17ce10745ccfa52", func := "loop.example/g01344/laws.FnExactYearOf", spec := "fnExactYearOf", unfollowed := true, recurses := true, apart := false, narrowed := true }
def FnExactYearOfUptoSaid : Prop := fnExactYearOfUptoRow.holds Try.pinned (OpenSpec.upto fnExactYearOfSpec)

/-- 'laws.FnYears', WHERE WHAT IT READS IS OF BULK AT MOST 1048576: true; the input reads as it did. -/
def fnYearsUptoRow : OpenClaim := { program := "ytgpmmpgbghjieaa", sum := "84147158976b52cfb28cb9faf51438d987b68c2088722b09c17ce10745ccfa52", func := "loop.example/g01344/laws.FnYears", spec := "fnYears", inPlace := ["math.Float32bits"], unfollowed := true, recurses := true, apart := false, narrowed := true }
def FnYearsUptoSaid : Prop := fnYearsUptoRow.holds Try.pinned (OpenSpec.upto fnYearsSpec)

end Rows
end Go.Proofs.Ytgpmmpgbghjieaa
