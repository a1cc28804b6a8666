/- The library's order of float32 (turned from the worked walk at int). -/
import Derived.Test.YtidcnkjgbleoiaaSrtP
import Derived.Sort.WalkA
import Derived.Lib.Hide
import Derived.WalkLawsBesides
namespace Go.Proofs.Ytidcnkjgbleoiaa.Srt
open Go.RowKit Go.Sort
set_option maxRecDepth 100000
open Ieee
theorem wk_cmp_isNaN (x : Nat) (w : World) : Calls Try.prog 58 #[.float .f32 x] w fun e w' => e = .returned (.bool (isn x)) ∧ w' = w := by
  have hf := feq_self x
  go_enter Try.func58, Try.ntmps58
  go_wp2
  go_ret
  exact ⟨by simp [hf], rfl⟩
set_option maxHeartbeats 1000000 in
theorem wk_cmp_Less (x y : Nat) (w : World) : Calls Try.prog 48 #[.float .f32 x, .float .f32 y] w fun e w' => e = .returned (.bool (ltF x y)) ∧ w' = w := by
  have hd : ltF x y = ((isn x && !isn y) || flt x y) := rfl
  have HD := Lib.hid hd
  clear hd
  go_enter Try.func48, Try.ntmps48
  go_wp2_with (go_at_call 58; refine (wk_cmp_isNaN _ _).mono ?_; rintro e w' ⟨rfl, rfl⟩)
  all_goals (go_ret; exact ⟨by rw [HD.out]; simp [*], rfl⟩)
end Go.Proofs.Ytidcnkjgbleoiaa.Srt
