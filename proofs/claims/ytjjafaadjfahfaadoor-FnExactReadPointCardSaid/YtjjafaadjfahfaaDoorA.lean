/- Contracts of the small functions on numbers. -/
import Derived.Test.YtjjafaadjfahfaaDoorRows
import Derived.Test.YtjjafaadjfahfaaDoorIe
namespace Go.Proofs.YtjjafaadjfahfaaDoor
open Go.RowKit Ieee
set_option maxRecDepth 100000

/-- a number from l to h -/
def fin (l h a : Nat) : Bool := fle l a && fle a h
def one32 : Nat := 1065353216
def part (a : Nat) : Bool := fin 0 1065353216 a
def iin (n l h : Int) : Bool := decide (l ≤ n) && decide (n ≤ h)

end Go.Proofs.YtjjafaadjfahfaaDoor
