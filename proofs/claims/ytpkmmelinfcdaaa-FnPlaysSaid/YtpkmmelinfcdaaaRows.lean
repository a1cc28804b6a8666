/-
  No cell of these rows narrows 'for every input' (looked for: loops, veiled, ifaces, maps, wideKeys, modest, calm, conditions, laid).
  DERIVED. THE GIVEN ROWS OF THIS SEAT. 5 by the template 'for every input the law returns true; each argument reads behind the call as it read before'; 0 by the template 'total and deterministic' (their statements: YtpkmmelinfcdaaaTotals.lean).
  GIVEN WITH THE SEED: the statements are not yours to turn. If you find one false, say at which input.
  Laid BY PROGRAM, IN A SANDBOX (cutbox-rows.mjs): the forced cells as the released guide's own fill.sh prints them over the translation 0506b0303e4d755c… (all of the seat's roots in one cut). By AI agents, Wed Nov 11 2026. No macro, syntax, notation, axiom, sorry.
-/
import Derived.Test.YtpkmmelinfcdaaaChecked
import GoSem.Claim
import GoSem.ClaimJoined
import GoSem.ClaimMapViews
import Derived.JoinedTies
import Derived.KernelRfl
namespace Go.Proofs.Ytpkmmelinfcdaaa
/- THE CELL 'sum', in the pinned program and in every row, IS THE sha256 OF THE DUMP (.gsa) THAT YtpkmmelinfcdaaaProg.lean LOADS. Nothing in Lean hashes anything: it is a label: what it is worth is what the hold of that sum in a sandbox is worth. -/
noncomputable def Try.pinned : Pinned := { name := "ytpkmmelinfcdaaa", sum := "0506b0303e4d755cb5bb158d102a09f8a2e269dff8bc69ab0382a7d2feb08069", checked := Try.checked }
namespace Rows
def none {H : Type} : Left H := { results := [], args := [] }

/-- 'laws.FnExactPlayAt': WHATEVER THE INPUT: true; the input reads as it did. -/
def fnExactPlayAtSpec : ChangeSpec := { name := "fnExactPlayAt", fn := fun _ => fun
  | [d1, d2] => { results := [.lit (.bool true)], args := [d1, d2] }
  | _ => none }
def fnExactPlayAtRow : OpenClaim := { program := "ytpkmmelinfcdaaa", sum := "0506b0303e4d755cb5bb158d102a09f8a2e269dff8bc69ab0382a7d2feb08069", func := "loop.example/g01344/laws.FnExactPlayAt", spec := "fnExactPlayAt", unfollowed := true, recurses := true, apart := false }
def FnExactPlayAtSaid : Prop := fnExactPlayAtRow.holds Try.pinned (OpenSpec.ofChange fnExactPlayAtSpec)

/-- ITS FALSE NEIGHBOUR: 'it returns false'. Refute it at one input. -/
def fnExactPlayAtWrong : ChangeSpec := { name := "fnExactPlayAt", fn := fun _ => fun
  | [d1, d2] => { results := [.lit (.bool false)], args := [d1, d2] }
  | _ => none }
def FnExactPlayAtWrongFalsely : Prop := fnExactPlayAtRow.holds Try.pinned (OpenSpec.ofChange fnExactPlayAtWrong)

/-- 'laws.FnExactPlayBounds': WHATEVER THE INPUT: true; the input reads as it did. -/
def fnExactPlayBoundsSpec : ChangeSpec := { name := "fnExactPlayBounds", fn := fun _ => fun
  | [d1, d2, d3] => { results := [.lit (.bool true)], args := [d1, d2, d3] }
  | _ => none }
def fnExactPlayBoundsRow : OpenClaim := { program := "ytpkmmelinfcdaaa", sum := "0506b0303e4d755cb5bb158d102a09f8a2e269dff8bc69ab0382a7d2feb08069", func := "loop.example/g01344/laws.FnExactPlayBounds", spec := "fnExactPlayBounds", unfollowed := true, recurses := true, apart := false }
def FnExactPlayBoundsSaid : Prop := fnExactPlayBoundsRow.holds Try.pinned (OpenSpec.ofChange fnExactPlayBoundsSpec)

/-- ITS FALSE NEIGHBOUR: 'it returns false'. Refute it at one input. -/
def fnExactPlayBoundsWrong : ChangeSpec := { name := "fnExactPlayBounds", fn := fun _ => fun
  | [d1, d2, d3] => { results := [.lit (.bool false)], args := [d1, d2, d3] }
  | _ => none }
def FnExactPlayBoundsWrongFalsely : Prop := fnExactPlayBoundsRow.holds Try.pinned (OpenSpec.ofChange fnExactPlayBoundsWrong)

/-- 'laws.FnExactPlaysAlong': WHATEVER THE INPUT: true; the input reads as it did. -/
def fnExactPlaysAlongSpec : ChangeSpec := { name := "fnExactPlaysAlong", fn := fun _ => fun
  | [d1, d2] => { results := [.lit (.bool true)], args := [d1, d2] }
  | _ => none }
def fnExactPlaysAlongRow : OpenClaim := { program := "ytpkmmelinfcdaaa", sum := "0506b0303e4d755cb5bb158d102a09f8a2e269dff8bc69ab0382a7d2feb08069", func := "loop.example/g01344/laws.FnExactPlaysAlong", spec := "fnExactPlaysAlong", unfollowed := true, recurses := true, apart := false }
def FnExactPlaysAlongSaid : Prop := fnExactPlaysAlongRow.holds Try.pinned (OpenSpec.ofChange fnExactPlaysAlongSpec)

/-- ITS FALSE NEIGHBOUR: 'it returns false'. Refute it at one input. -/
def fnExactPlaysAlongWrong : ChangeSpec := { name := "fnExactPlaysAlong", fn := fun _ => fun
  | [d1, d2] => { results := [.lit (.bool false)], args := [d1, d2] }
  | _ => none }
def FnExactPlaysAlongWrongFalsely : Prop := fnExactPlaysAlongRow.holds Try.pinned (OpenSpec.ofChange fnExactPlaysAlongWrong)

/-- 'laws.FnExactWidestPlay': WHATEVER THE INPUT: true; the input reads as it did. -/
def fnExactWidestPlaySpec : ChangeSpec := { name := "fnExactWidestPlay", fn := fun _ => fun
  | [d1, d2] => { results := [.lit (.bool true)], args := [d1, d2] }
  | _ => none }
def fnExactWidestPlayRow : OpenClaim := { program := "ytpkmmelinfcdaaa", sum := "0506b0303e4d755cb5bb158d102a09f8a2e269dff8bc69ab0382a7d2feb08069", func := "loop.example/g01344/laws.FnExactWidestPlay", spec := "fnExactWidestPlay", unfollowed := true, recurses := true, apart := false }
def FnExactWidestPlaySaid : Prop := fnExactWidestPlayRow.holds Try.pinned (OpenSpec.ofChange fnExactWidestPlaySpec)

/-- ITS FALSE NEIGHBOUR: 'it returns false'. Refute it at one input. -/
def fnExactWidestPlayWrong : ChangeSpec := { name := "fnExactWidestPlay", fn := fun _ => fun
  | [d1, d2] => { results := [.lit (.bool false)], args := [d1, d2] }
  | _ => none }
def FnExactWidestPlayWrongFalsely : Prop := fnExactWidestPlayRow.holds Try.pinned (OpenSpec.ofChange fnExactWidestPlayWrong)

/-- 'laws.FnPlays': WHATEVER THE INPUT: true; the input reads as it did. -/
def fnPlaysSpec : ChangeSpec := { name := "fnPlays", fn := fun _ => fun
  | [d1, d2] => { results := [.lit (.bool true)], args := [d1, d2] }
  | _ => none }
def fnPlaysRow : OpenClaim := { program := "ytpkmmelinfcdaaa", sum := "0506b0303e4d755cb5bb158d102a09f8a2e269dff8bc69ab0382a7d2feb08069", func := "loop.example/g01344/laws.FnPlays", spec := "fnPlays", inPlace := ["math.Float32bits"], unfollowed := true, recurses := true, apart := false }
def FnPlaysSaid : Prop := fnPlaysRow.holds Try.pinned (OpenSpec.ofChange fnPlaysSpec)

/-- ITS FALSE NEIGHBOUR: 'it returns false'. Refute it at one input. -/
def fnPlaysWrong : ChangeSpec := { name := "fnPlays", fn := fun _ => fun
  | [d1, d2] => { results := [.lit (.bool false)], args := [d1, d2] }
  | _ => none }
def FnPlaysWrongFalsely : Prop := fnPlaysRow.holds Try.pinned (OpenSpec.ofChange fnPlaysWrong)

/- THE SECOND FORM. 'bulk': how many values and letters a reading holds, each counted each time it is reached (what is shared counts as often as it is met; a slice's spare places count too). A statement '..UptoSaid' is the law's where the arguments, and the package variables that the reading takes, are together of bulk at most 1048576: NARROWER than '..Said'. Prove '..Said' where nothing that the law and all that it calls make is longer than what came in: it says more and counts as full. Else prove '..UptoSaid'. A law counts once. -/
mutual
def uptoBulk {H : Type} : DataW H → Nat
  | .lit (.string bytes) => bytes.length + 1
  | .lit _ => 1
  | .nil => 1
  | .ptr d => uptoBulk d + 1
  | .slice elems spare => uptoBulkAll elems + uptoBulkAll spare + 1
  | .agg parts => uptoBulkAll parts + 1
  | .iface _ d => uptoBulk d + 1
  | .map entries => uptoBulkEntries entries + 1
  | .held _ => 1
def uptoBulkAll {H : Type} : List (DataW H) → Nat
  | [] => 0
  | d :: r => uptoBulk d + uptoBulkAll r
def uptoBulkEntries {H : Type} : List (Lit × DataW H) → Nat
  | [] => 0
  | x :: r => uptoBulkEntry x + uptoBulkEntries r
def uptoBulkEntry {H : Type} : Lit × DataW H → Nat
  | (.string bytes, d) => bytes.length + uptoBulk d + 1
  | (_, d) => uptoBulk d + 1
 end
def uptoSmall : (H : Type) → List (DataW H) → Bool := fun _ ds => decide (uptoBulkAll ds ≤ 1048576)
def OpenSpec.upto (s : _root_.Go.ChangeSpec) : _root_.Go.OpenSpec := { _root_.Go.OpenSpec.ofChange s with cond := some uptoSmall }

/-- 'laws.FnExactPlayAt', WHERE WHAT IT READS IS OF BULK AT MOST 1048576: true; the input reads as it did. -/
def fnExactPlayAtUptoRow : OpenClaim := { program := "ytpkmmelinfcdaaa", sum := "0506b0303e4d755cb5bb158d102a09f8a2e269dff8bc69ab0382a7d2feb08069", func := "loop.example/g01344/laws.FnExactPlayAt", spec := "fnExactPlayAt", unfollowed := true, recurses := true, apart := false, narrowed := true }
def FnExactPlayAtUptoSaid : Prop := fnExactPlayAtUptoRow.holds Try.pinned (OpenSpec.upto fnExactPlayAtSpec)

/-- 'laws.FnExactPlayBounds', WHERE WHAT IT READS IS OF BULK AT MOST 1048576: true; the input reads as it did. -/
def fnExactPlayBoundsUptoRow : OpenClaim := { program := "ytpkmmelinfcdaaa", sum := "0506b0303e4d755cb5bb158d102a09f8a2e269dff8bc69ab0382a7d2feb08069", func := "loop.example/g01344/laws.FnExactPlayBounds", spec := "fnExactPlayBounds", unfollowed := true, recurses := true, apart := false, narrowed := true }
def FnExactPlayBoundsUptoSaid : Prop := fnExactPlayBoundsUptoRow.holds Try.pinned (OpenSpec.upto fnExactPlayBoundsSpec)

/-- 'laws.FnExactPlaysAlong', WHERE WHAT IT READS IS OF BULK AT MOST 1048576: true; the input reads as it did. -/
def fnExactPlaysAlongUptoRow : OpenClaim := { program := "ytpkmmelinfcdaaa", sum := "0506b0303e4d755cb5bb158d102a09f8a2e269dff8bc69ab0382a7d2feb08069", func := "loop.example/g01344/laws.FnExactPlaysAlong", spec := "fnExactPlaysAlong", unfollowed := true, recurses := true, apart := false, narrowed := true }
def FnExactPlaysAlongUptoSaid : Prop := fnExactPlaysAlongUptoRow.holds Try.pinned (OpenSpec.upto fnExactPlaysAlongSpec)

/-- 'laws.FnExactWidestPlay', WHERE WHAT IT READS IS OF BULK AT MOST 1048576: true; the input reads as it did. -/
def fnExactWidestPlayUptoRow : OpenClaim := { program := "ytpkmmelinfcdaaa", sum := "0506b0303e4d755cb5bb158d102a09f8a2e269dff8bc69ab0382a7d2feb08069", func := "loop.example/g01344/laws.FnExactWidestPlay", spec := "fnExactWidestPlay", unfollowed := true, recurses := true, apart := false, narrowed := true }
def FnExactWidestPlayUptoSaid : Prop := fnExactWidestPlayUptoRow.holds Try.pinned (OpenSpec.upto fnExactWidestPlaySpec)

/-- 'laws.FnPlays', WHERE WHAT IT READS IS OF BULK AT MOST 1048576: true; the input reads as it did. -/
def fnPlaysUptoRow : OpenClaim := { program := "ytpkmmelinfcdaaa", sum := "0506b0303e4d755cb5bb158d102a09f8a2e269dff8bc69ab0382a7d2feb08069", func := "loop.example/g01344/laws.FnPlays", spec := "fnPlays", inPlace := ["math.Float32bits"], unfollowed := true, recurses := true, apart := false, narrowed := true }
def FnPlaysUptoSaid : Prop := fnPlaysUptoRow.holds Try.pinned (OpenSpec.upto fnPlaysSpec)

end Rows
end Go.Proofs.Ytpkmmelinfcdaaa
