/- Contracts of the small functions on numbers. -/
import Derived.Test.YtggcajillncamaaRows
import Derived.Test.YtggcajillncamaaIe
namespace Go.Proofs.Ytggcajillncamaa
open Go.RowKit Ieee
set_option maxRecDepth 100000

/-- a number from l to h -/
def fin (l h a : Nat) : Bool := fle l a && fle a h
def one32 : Nat := 1065353216
def part (a : Nat) : Bool := fin 0 1065353216 a
def iin (n l h : Int) : Bool := decide (l ≤ n) && decide (n ≤ h)

theorem between_any (a l h : Nat) (w : World) :
    Calls Try.prog 31 #[.float .f32 a, .float .f32 l, .float .f32 h] w fun e w' => e = .returned (.bool (fin l h a)) ∧ w = w' := by
  go_enter Try.func31, Try.ntmps31
  go_wp2
  all_goals (go_ret; refine ⟨?_, rfl⟩; simp [fin, *])
theorem part_any (a : Nat) (w : World) :
    Calls Try.prog 56 #[.float .f32 a] w fun e w' => e = .returned (.bool (part a)) ∧ w = w' := by
  go_enter Try.func56, Try.ntmps56
  go_wp2
  all_goals (go_ret; refine ⟨?_, rfl⟩; simp [part, fin, *])
theorem within_any (n l h : Int) (w : World) :
    Calls Try.prog 46 #[.int .i64 n, .int .i64 l, .int .i64 h] w fun e w' => e = .returned (.bool (iin n l h)) ∧ w = w' := by
  go_enter Try.func46, Try.ntmps46
  go_wp2
  all_goals (go_ret; refine ⟨?_, rfl⟩; first | (simp [iin, *]; done) | (simp [iin]; omega))
theorem l00In_any (n l h : Int) (w : World) :
    Calls Try.prog 52 #[.int .i64 n, .int .i64 l, .int .i64 h] w fun e w' => e = .returned (.bool (iin n l h)) ∧ w = w' := by
  go_enter Try.func52, Try.ntmps52
  go_wp2
  all_goals (go_ret; refine ⟨?_, rfl⟩; first | (simp [iin, *]; done) | (simp [iin]; omega))
end Go.Proofs.Ytggcajillncamaa
