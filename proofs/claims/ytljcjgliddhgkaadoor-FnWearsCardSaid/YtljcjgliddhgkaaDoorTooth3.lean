/- Teeth that are compared, looked at, turned and made new: contracts and laws. -/
import Derived.Test.YtljcjgliddhgkaaDoorTooth2
namespace Go.Proofs.YtljcjgliddhgkaaDoor
open Go.RowKit Ieee
set_option maxRecDepth 100000

def sameT (h x y : Nat) (s : Int) (h' x' y' : Nat) (s' : Int) : Bool := decide (s = s') && same h h' && same x x' && same y y'

set_option maxHeartbeats 1000000 in
theorem sameTooth_spec (h x y : Nat) (s : Int) (h' x' y' : Nat) (s' : Int) (w : World) :
    Calls Tryd.prog 20 #[.agg #[.float .f32 h, .float .f32 x, .float .f32 y, .int .i8 s], .agg #[.float .f32 h', .float .f32 x', .float .f32 y', .int .i8 s']] w fun e w' => e = .returned (.bool (sameT h x y s h' x' y' s')) ∧ Below w.heap.size w w' := by
  go_enter Tryd.func20, Tryd.ntmps20
  go_wp2_with (go_at_call 47; refine (l01Same_any _ _ _).mono ?_; rintro e w' ⟨rfl, rfl⟩)
  all_goals (go_ret; refine ⟨by first | (simp_all [sameT]; done) | (simp_all [sameT]; rfl), ?_⟩)
  all_goals (repeat (first | with_reducible exact Below.refl _ _ | with_reducible refine bset ?_ (by first | (simp; done) | (simp; omega) | omega) _ | with_reducible refine balloc ?_ _ | with_reducible refine bdrewN ?_ _ | with_reducible refine bdrew ?_ | with_reducible refine bstep ?_ (by assumption)))
set_option maxHeartbeats 1000000 in
theorem sameTooth_impl (h x y : Nat) (s : Int) (h' x' y' : Nat) (s' : Int) (w : World) :
    Calls Tryd.prog 21 #[.agg #[.float .f32 h, .float .f32 x, .float .f32 y, .int .i8 s], .agg #[.float .f32 h', .float .f32 x', .float .f32 y', .int .i8 s']] w fun e w' => e = .returned (.bool (sameT h x y s h' x' y' s')) ∧ Below w.heap.size w w' := by
  go_enter Tryd.func21, Tryd.ntmps21
  go_wp2_with (go_at_call 48; refine (sameNumber_any _ _ _).mono ?_; rintro e w' ⟨rfl, rfl⟩)
  all_goals (go_ret; refine ⟨by first | (simp_all [sameT]; done) | (simp_all [sameT]; rfl), ?_⟩)
  all_goals (repeat (first | with_reducible exact Below.refl _ _ | with_reducible refine bset ?_ (by first | (simp; done) | (simp; omega) | omega) _ | with_reducible refine balloc ?_ _ | with_reducible refine bdrewN ?_ _ | with_reducible refine bdrew ?_ | with_reducible refine bstep ?_ (by assumption)))
end Go.Proofs.YtljcjgliddhgkaaDoor
