/- Contracts of the small functions on numbers. -/
import Derived.Test.YtegplbjgoodokaaRows
import Derived.Test.YtegplbjgoodokaaKit
namespace Go.Proofs.Ytegplbjgoodokaa
open Go.RowKit Ieee

/-- a number from l to h -/
def fin (l h a : Nat) : Bool := fle l a && fle a h
def one32 : Nat := 1065353216
def part (a : Nat) : Bool := fin 0 1065353216 a
def iin (n l h : Int) : Bool := decide (l ≤ n) && decide (n ≤ h)

theorem between_any (a l h : Nat) (w : World) :
    Calls Try.prog 35 #[.float .f32 a, .float .f32 l, .float .f32 h] w fun e w' => e = .returned (.bool (fin l h a)) ∧ w = w' := by
  go_enter Try.func35, Try.ntmps35
  go_wp2
  all_goals (go_ret; refine ⟨?_, rfl⟩; simp [fin, *])
theorem isPart_any (a : Nat) (w : World) :
    Calls Try.prog 36 #[.float .f32 a] w fun e w' => e = .returned (.bool (part a)) ∧ w = w' := by
  go_enter Try.func36, Try.ntmps36
  go_wp2_with (go_at_call 35; refine (between_any _ _ _ _).mono ?_; rintro e w' ⟨rfl, rfl⟩)
  all_goals (go_ret; exact ⟨rfl, rfl⟩)
theorem part_any (a : Nat) (w : World) :
    Calls Try.prog 46 #[.float .f32 a] w fun e w' => e = .returned (.bool (part a)) ∧ w = w' := by
  go_enter Try.func46, Try.ntmps46
  go_wp2
  all_goals (go_ret; refine ⟨?_, rfl⟩; simp [part, fin, *])
theorem within_any (n l h : Int) (w : World) :
    Calls Try.prog 37 #[.int .i64 n, .int .i64 l, .int .i64 h] w fun e w' => e = .returned (.bool (iin n l h)) ∧ w = w' := by
  go_enter Try.func37, Try.ntmps37
  go_wp2
  all_goals (go_ret; refine ⟨?_, rfl⟩; first | (simp [iin, *]; done) | (simp [iin]; omega))
theorem l00In_any (n l h : Int) (w : World) :
    Calls Try.prog 51 #[.int .i64 n, .int .i64 l, .int .i64 h] w fun e w' => e = .returned (.bool (iin n l h)) ∧ w = w' := by
  go_enter Try.func51, Try.ntmps51
  go_wp2
  all_goals (go_ret; refine ⟨?_, rfl⟩; first | (simp [iin, *]; done) | (simp [iin]; omega))
end Go.Proofs.Ytegplbjgoodokaa
