/- Contracts of the small functions on numbers. -/
import Derived.Test.YtljcjgliddhgkaaDoorRows
import Derived.Test.YtljcjgliddhgkaaDoorIe
namespace Go.Proofs.YtljcjgliddhgkaaDoor
open Go.RowKit Ieee
set_option maxRecDepth 100000

/-- a number from l to h -/
def fin (l h a : Nat) : Bool := fle l a && fle a h
def one32 : Nat := 1065353216
def part (a : Nat) : Bool := fin 0 1065353216 a
def iin (n l h : Int) : Bool := decide (l ≤ n) && decide (n ≤ h)

theorem between_any (a l h : Nat) (w : World) :
    Calls Tryd.prog 49 #[.float .f32 a, .float .f32 l, .float .f32 h] w fun e w' => e = .returned (.bool (fin l h a)) ∧ w = w' := by
  go_enter Tryd.func49, Tryd.ntmps49
  go_wp2
  all_goals (go_ret; refine ⟨?_, rfl⟩; simp [fin, *])
theorem isPart_any (a : Nat) (w : World) :
    Calls Tryd.prog 50 #[.float .f32 a] w fun e w' => e = .returned (.bool (part a)) ∧ w = w' := by
  go_enter Tryd.func50, Tryd.ntmps50
  go_wp2_with (go_at_call 49; refine (between_any _ _ _ _).mono ?_; rintro e w' ⟨rfl, rfl⟩)
  all_goals (go_ret; exact ⟨rfl, rfl⟩)
theorem part_any (a : Nat) (w : World) :
    Calls Tryd.prog 52 #[.float .f32 a] w fun e w' => e = .returned (.bool (part a)) ∧ w = w' := by
  go_enter Tryd.func52, Tryd.ntmps52
  go_wp2
  all_goals (go_ret; refine ⟨?_, rfl⟩; simp [part, fin, *])
theorem within_any (n l h : Int) (w : World) :
    Calls Tryd.prog 51 #[.int .i64 n, .int .i64 l, .int .i64 h] w fun e w' => e = .returned (.bool (iin n l h)) ∧ w = w' := by
  go_enter Tryd.func51, Tryd.ntmps51
  go_wp2
  all_goals (go_ret; refine ⟨?_, rfl⟩; first | (simp [iin, *]; done) | (simp [iin]; omega))
theorem l00In_any (n l h : Int) (w : World) :
    Calls Tryd.prog 53 #[.int .i64 n, .int .i64 l, .int .i64 h] w fun e w' => e = .returned (.bool (iin n l h)) ∧ w = w' := by
  go_enter Tryd.func53, Tryd.ntmps53
  go_wp2
  all_goals (go_ret; refine ⟨?_, rfl⟩; first | (simp [iin, *]; done) | (simp [iin]; omega))
end Go.Proofs.YtljcjgliddhgkaaDoor
