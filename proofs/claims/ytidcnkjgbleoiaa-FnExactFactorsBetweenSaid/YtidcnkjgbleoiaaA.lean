/- Contracts of the small functions on numbers. -/
import Derived.Test.YtidcnkjgbleoiaaRows
import Derived.Test.YtidcnkjgbleoiaaIe
namespace Go.Proofs.Ytidcnkjgbleoiaa
open Go.RowKit Ieee
set_option maxRecDepth 100000

/-- a number from l to h -/
def fin (l h a : Nat) : Bool := fle l a && fle a h
def one32 : Nat := 1065353216
def part (a : Nat) : Bool := fin 0 1065353216 a
def iin (n l h : Int) : Bool := decide (l ≤ n) && decide (n ≤ h)

theorem between_any (a l h : Nat) (w : World) :
    Calls Try.prog 28 #[.float .f32 a, .float .f32 l, .float .f32 h] w fun e w' => e = .returned (.bool (fin l h a)) ∧ w = w' := by
  go_enter Try.func28, Try.ntmps28
  go_wp2
  all_goals (go_ret; refine ⟨?_, rfl⟩; simp [fin, *])
theorem within_any (n l h : Int) (w : World) :
    Calls Try.prog 33 #[.int .i64 n, .int .i64 l, .int .i64 h] w fun e w' => e = .returned (.bool (iin n l h)) ∧ w = w' := by
  go_enter Try.func33, Try.ntmps33
  go_wp2
  all_goals (go_ret; refine ⟨?_, rfl⟩; first | (simp [iin, *]; done) | (simp [iin]; omega))
theorem l00In_any (n l h : Int) (w : World) :
    Calls Try.prog 30 #[.int .i64 n, .int .i64 l, .int .i64 h] w fun e w' => e = .returned (.bool (iin n l h)) ∧ w = w' := by
  go_enter Try.func30, Try.ntmps30
  go_wp2
  all_goals (go_ret; refine ⟨?_, rfl⟩; first | (simp [iin, *]; done) | (simp [iin]; omega))
end Go.Proofs.Ytidcnkjgbleoiaa
