/- Contracts of the small functions on numbers. -/
import Derived.Test.YtdekolkngokmpaaDoorRows
import Derived.Test.YtdekolkngokmpaaDoorIe
namespace Go.Proofs.YtdekolkngokmpaaDoor
open Go.RowKit Ieee
set_option maxRecDepth 100000

/-- a number from l to h -/
def fin (l h a : Nat) : Bool := fle l a && fle a h
def one32 : Nat := 1065353216
def part (a : Nat) : Bool := fin 0 1065353216 a
def iin (n l h : Int) : Bool := decide (l ≤ n) && decide (n ≤ h)

theorem within_any (n l h : Int) (w : World) :
    Calls Tryd.prog 26 #[.int .i64 n, .int .i64 l, .int .i64 h] w fun e w' => e = .returned (.bool (iin n l h)) ∧ w = w' := by
  go_enter Tryd.func26, Tryd.ntmps26
  go_wp2
  all_goals (go_ret; refine ⟨?_, rfl⟩; first | (simp [iin, *]; done) | (simp [iin]; omega))
theorem l00In_any (n l h : Int) (w : World) :
    Calls Tryd.prog 23 #[.int .i64 n, .int .i64 l, .int .i64 h] w fun e w' => e = .returned (.bool (iin n l h)) ∧ w = w' := by
  go_enter Tryd.func23, Tryd.ntmps23
  go_wp2
  all_goals (go_ret; refine ⟨?_, rfl⟩; first | (simp [iin, *]; done) | (simp [iin]; omega))
end Go.Proofs.YtdekolkngokmpaaDoor
