/- Plain numbers: both tests. -/
import Derived.Test.YtgdaompppclnlaaTrain
namespace Go.Proofs.Ytgdaompppclnlaa
open Go.RowKit Ieee
open Go.Proofs.YtgdaompppclnlaaW.PrintWords
set_option maxRecDepth 100000

def plainV (x : Nat) : Bool := fin 3380609024 1233125376 x
theorem plain_spec (r x : Nat) (hr : FV r x) (w : World) :
    Calls Try.prog 33 #[.float .f32 r] w fun e w' => e = .returned (.bool (plainV x)) ∧ w = w' := by
  have q1 := fle_vr (c := 3380609024) hr (by decide)
  have q2 := fle_vl (c := 1233125376) hr (by decide)
  have HD : Hid (plainV x = (fle 3380609024 x && fle x 1233125376)) := Lib.hid rfl
  clear hr
  go_enter Try.func33, Try.ntmps33
  go_wp2
  all_goals (go_ret; refine ⟨?_, rfl⟩; rw [HD.out]; first | (simp [*]; done) | (simp [*]; rename_i hlast; simpa using hlast))
theorem plain_impl (r x : Nat) (hr : FV r x) (w : World) :
    Calls Try.prog 29 #[.float .f32 r] w fun e w' => e = .returned (.bool (plainV x)) ∧ w = w' := by
  have H : Hid (∀ w : World, Calls Try.prog 47 #[.float .f32 r, .float .f32 3380609024, .float .f32 1233125376] w fun e w' => e = .returned (.bool (plainV x)) ∧ w = w') := Lib.hid (fun w => by have := between_any r 3380609024 1233125376 w; rwa [fin_v hr (by decide) (by decide)] at this)
  clear hr
  go_enter Try.func29, Try.ntmps29
  go_wp2_with (go_at_call 47; refine (H.out _).mono ?_; rintro e w' ⟨rfl, rfl⟩)
  go_ret
  exact ⟨rfl, rfl⟩
end Go.Proofs.Ytgdaompppclnlaa
