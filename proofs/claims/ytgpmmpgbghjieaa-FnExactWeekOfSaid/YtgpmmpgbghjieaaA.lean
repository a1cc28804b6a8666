/- Contracts of the small functions on numbers. -/
import Derived.Test.YtgpmmpgbghjieaaRows
import Derived.Test.YtgpmmpgbghjieaaKit
namespace Go.Proofs.Ytgpmmpgbghjieaa
open Go.RowKit Ieee

/-- a number from l to h -/
def fin (l h a : Nat) : Bool := fle l a && fle a h
def one32 : Nat := 1065353216
def part (a : Nat) : Bool := fin 0 1065353216 a
def iin (n l h : Int) : Bool := decide (l ≤ n) && decide (n ≤ h)

theorem between_any (a l h : Nat) (w : World) :
    Calls Try.prog 77 #[.float .f32 a, .float .f32 l, .float .f32 h] w fun e w' => e = .returned (.bool (fin l h a)) ∧ w = w' := by
  go_enter Try.func77, Try.ntmps77
  go_wp2
  all_goals (go_ret; refine ⟨?_, rfl⟩; simp [fin, *])
theorem isPart_any (a : Nat) (w : World) :
    Calls Try.prog 53 #[.float .f32 a] w fun e w' => e = .returned (.bool (part a)) ∧ w = w' := by
  go_enter Try.func53, Try.ntmps53
  go_wp2_with (go_at_call 77; refine (between_any _ _ _ _).mono ?_; rintro e w' ⟨rfl, rfl⟩)
  all_goals (go_ret; exact ⟨rfl, rfl⟩)
theorem part_any (a : Nat) (w : World) :
    Calls Try.prog 50 #[.float .f32 a] w fun e w' => e = .returned (.bool (part a)) ∧ w = w' := by
  go_enter Try.func50, Try.ntmps50
  go_wp2
  all_goals (go_ret; refine ⟨?_, rfl⟩; simp [part, fin, *])
theorem within_any (n l h : Int) (w : World) :
    Calls Try.prog 90 #[.int .i64 n, .int .i64 l, .int .i64 h] w fun e w' => e = .returned (.bool (iin n l h)) ∧ w = w' := by
  go_enter Try.func90, Try.ntmps90
  go_wp2
  all_goals (go_ret; refine ⟨?_, rfl⟩; first | (simp [iin, *]; done) | (simp [iin]; omega))
theorem l00In_any (n l h : Int) (w : World) :
    Calls Try.prog 88 #[.int .i64 n, .int .i64 l, .int .i64 h] w fun e w' => e = .returned (.bool (iin n l h)) ∧ w = w' := by
  go_enter Try.func88, Try.ntmps88
  go_wp2
  all_goals (go_ret; refine ⟨?_, rfl⟩; first | (simp [iin, *]; done) | (simp [iin]; omega))
end Go.Proofs.Ytgpmmpgbghjieaa
