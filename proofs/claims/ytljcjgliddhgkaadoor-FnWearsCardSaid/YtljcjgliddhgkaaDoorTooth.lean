/- Contracts of the functions on teeth that only look. -/
import Derived.Test.YtljcjgliddhgkaaDoorA
namespace Go.Proofs.YtljcjgliddhgkaaDoor
open Go.RowKit Ieee
set_option maxRecDepth 100000

def toothV (h x y : Nat) (s : Int) : Value := .agg #[.float .f32 h, .float .f32 x, .float .f32 y, .int .i8 s]
def okTooth (h x y : Nat) (s : Int) : Bool := fin 1065353216 1199570944 h && part x && part y && iin s 0 1

theorem toA2_any (x y : Nat) (w : World) :
    Calls Tryd.prog 27 #[.agg #[.float .f32 x, .float .f32 y]] w fun e w' => e = .returned (.agg #[.float .f32 x, .float .f32 y]) ∧
      ((w.alloc (.cells #[.float .f32 x, .float .f32 y] 23)).alloc (.cells #[.float .f32 x, .float .f32 y] 23)).alloc (.cells #[.float .f32 x, .float .f32 y] 23) = w' := by
  go_enter Tryd.func27, Tryd.ntmps27
  go_wp2
  go_rounds 3
  all_goals (refine bodyPost_ret (v := .agg #[.float .f32 x, .float .f32 y]) (by simp [results, Tryd.results27, go_sem]) rfl ⟨rfl, rfl⟩)

theorem toTooth_any (h x y : Nat) (s : Int) (w : World) :
    Calls Tryd.prog 7 #[.agg #[.float .f32 h, .float .f32 x, .float .f32 y, .int .i8 s]] w fun e w' => e = .returned (.agg #[.float .f32 h, .float .f32 x, .float .f32 y, .int .i8 s]) ∧ Below w.heap.size w w' := by
  go_enter Tryd.func7, Tryd.ntmps7
  go_wp2_with (go_at_call 27; refine (toA2_any _ _ _).mono ?_; rintro e w' ⟨rfl, rfl⟩)
  refine bodyPost_ret (v := .agg #[.float .f32 h, .float .f32 x, .float .f32 y, .int .i8 s]) (by simp [results, Tryd.results7, go_sem]; done) rfl ⟨rfl, ?_⟩
  (repeat (first | with_reducible exact Below.refl _ _ | with_reducible refine bset ?_ (by first | (simp; done) | (simp; omega) | omega) _ | with_reducible refine balloc ?_ _ | with_reducible refine bdrewN ?_ _ | with_reducible refine bdrew ?_ | with_reducible refine bstep ?_ (by assumption)))

theorem okTooth_spec (h x y : Nat) (s : Int) (hsl : -128 ≤ s) (hsu : s ≤ 127) (w : World) :
    Calls Tryd.prog 25 #[.agg #[.float .f32 h, .float .f32 x, .float .f32 y, .int .i8 s]] w fun e w' => e = .returned (.bool (okTooth h x y s)) ∧ Below w.heap.size w w' := by
  go_enter Tryd.func25, Tryd.ntmps25
  go_wp2_with (first | (go_at_call 52; refine (part_any _ _).mono ?_; rintro e w' ⟨rfl, rfl⟩) | (go_at_call 53; refine (l00In_any _ _ _ _).mono ?_; rintro e w' ⟨rfl, rfl⟩))
  all_goals (go_ret; refine ⟨by simp_all [okTooth, fin], ?_⟩)
  all_goals (repeat (first | with_reducible exact Below.refl _ _ | with_reducible refine bset ?_ (by first | (simp; done) | (simp; omega) | omega) _ | with_reducible refine balloc ?_ _ | with_reducible refine bdrewN ?_ _ | with_reducible refine bdrew ?_ | with_reducible refine bstep ?_ (by assumption)))
theorem validTooth_impl (h x y : Nat) (s : Int) (hsl : -128 ≤ s) (hsu : s ≤ 127) (w : World) :
    Calls Tryd.prog 22 #[.agg #[.float .f32 h, .float .f32 x, .float .f32 y, .int .i8 s]] w fun e w' => e = .returned (.bool (okTooth h x y s)) ∧ Below w.heap.size w w' := by
  go_enter Tryd.func22, Tryd.ntmps22
  go_wp2_with (first | (go_at_call 49; refine (between_any _ _ _ _).mono ?_; rintro e w' ⟨rfl, rfl⟩) | (go_at_call 50; refine (isPart_any _ _).mono ?_; rintro e w' ⟨rfl, rfl⟩) | (go_at_call 51; refine (within_any _ _ _ _).mono ?_; rintro e w' ⟨rfl, rfl⟩))
  all_goals (go_ret; refine ⟨by simp_all [okTooth, fin], ?_⟩)
  all_goals (repeat (first | with_reducible exact Below.refl _ _ | with_reducible refine bset ?_ (by first | (simp; done) | (simp; omega) | omega) _ | with_reducible refine balloc ?_ _ | with_reducible refine bdrewN ?_ _ | with_reducible refine bdrew ?_ | with_reducible refine bstep ?_ (by assumption)))
end Go.Proofs.YtljcjgliddhgkaaDoor
