/- Teeth turned and made new: contracts and laws. -/
import Derived.Test.YtgpmmpgbghjieaaTooth4
namespace Go.Proofs.Ytgpmmpgbghjieaa
open Go.RowKit Ieee
set_option maxRecDepth 100000

theorem toTooth_x (h x y : Nat) (s : Int) (w : World) :
    Calls Try.prog 43 #[.agg #[.float .f32 h, .float .f32 x, .float .f32 y, .int .i8 s]] w fun e w' => e = .returned (.agg #[.float .f32 h, .float .f32 x, .float .f32 y, .int .i8 s]) ∧
      ((((((w.alloc (.cells #[.float .f32 h, .float .f32 x, .float .f32 y, .int .i8 s] 75)).alloc (.cells #[.float .f32 h, .float .f32 x, .float .f32 y, .int .i8 s] 64)).alloc (.cells #[.float .f32 h, .float .f32 x, .float .f32 y, .int .i8 s] 64)).alloc (.cells #[.float .f32 x, .float .f32 y] 61)).alloc (.cells #[.float .f32 x, .float .f32 y] 61)).alloc (.cells #[.float .f32 x, .float .f32 y] 61)) = w' := by
  go_enter Try.func43, Try.ntmps43
  go_wp2_with (go_at_call 67; refine (toA2_any _ _ _).mono ?_; rintro e w' ⟨rfl, rfl⟩)
  refine bodyPost_ret (v := .agg #[.float .f32 h, .float .f32 x, .float .f32 y, .int .i8 s]) (by simp [results, Try.results43, go_sem]; done) rfl ⟨rfl, rfl⟩

theorem okTooth_specx (h x y : Nat) (s : Int) (hsl : -128 ≤ s) (hsu : s ≤ 127) (w : World) :
    Calls Try.prog 66 #[.agg #[.float .f32 h, .float .f32 x, .float .f32 y, .int .i8 s]] w fun e w' => e = .returned (.bool (okTooth h x y s)) ∧ w.alloc (.cells #[.float .f32 h, .float .f32 x, .float .f32 y, .int .i8 s] 64) = w' := by
  go_enter Try.func66, Try.ntmps66
  go_wp2_with (first | (go_at_call 50; refine (part_any _ _).mono ?_; rintro e w' ⟨rfl, rfl⟩) | (go_at_call 88; refine (l00In_any _ _ _ _).mono ?_; rintro e w' ⟨rfl, rfl⟩))
  all_goals (go_ret; refine ⟨by simp_all [okTooth, fin], rfl⟩)
theorem validTooth_implx (h x y : Nat) (s : Int) (hsl : -128 ≤ s) (hsu : s ≤ 127) (w : World) :
    Calls Try.prog 71 #[.agg #[.float .f32 h, .float .f32 x, .float .f32 y, .int .i8 s]] w fun e w' => e = .returned (.bool (okTooth h x y s)) ∧ w.alloc (.cells #[.float .f32 h, .float .f32 x, .float .f32 y, .int .i8 s] 64) = w' := by
  go_enter Try.func71, Try.ntmps71
  go_wp2_with (first | (go_at_call 77; refine (between_any _ _ _ _).mono ?_; rintro e w' ⟨rfl, rfl⟩) | (go_at_call 53; refine (isPart_any _ _).mono ?_; rintro e w' ⟨rfl, rfl⟩) | (go_at_call 90; refine (within_any _ _ _ _).mono ?_; rintro e w' ⟨rfl, rfl⟩))
  all_goals (go_ret; refine ⟨by simp_all [okTooth, fin], rfl⟩)
set_option maxHeartbeats 2000000 in
theorem turned_any (b off : Nat) (h x y : Nat) (s : Int) (hs0 : 0 ≤ s) (hs1 : s ≤ 1) (w : World) (hlt : b < w.heap.size)
    (c0 : w.cell? ⟨b, off, none⟩ = some (.float .f32 h)) (c1 : w.cell? ⟨b, off + 1, none⟩ = some (.float .f32 x)) (c2 : w.cell? ⟨b, off + 2, none⟩ = some (.float .f32 y)) (c3 : w.cell? ⟨b, off + 3, none⟩ = some (.int .i8 s)) :
    Calls Try.prog 78 #[.pointer (some ⟨b, off, none⟩)] w fun e w' => e = .returned (.agg #[.float .f32 h, .float .f32 x, .float .f32 y, .int .i8 (1 - s)]) ∧ (w.alloc (.cells #[.float .f32 h, .float .f32 x, .float .f32 y, .int .i8 (1 - s)] 64)).alloc (.cells #[.float .f32 h, .float .f32 x, .float .f32 y, .int .i8 (1 - s)] 64) = w' := by
  go_enter Try.func78, Try.ntmps78
  go_wp2
  refine bodyPost_ret (v := .agg #[.float .f32 h, .float .f32 x, .float .f32 y, .int .i8 (1 - s)]) (by simp [results, Try.results78, go_sem]; done) rfl ⟨rfl, rfl⟩
theorem turnA_ok {h x y : Nat} {s : Int} : ∃ h' x' y' s' c, turnA h x y s = .tuple #[.agg #[.float .f32 h', .float .f32 x', .float .f32 y', .int .i8 s'], .int .i64 c] := by
  unfold turnA zeroT; split <;> exact ⟨_, _, _, _, _, rfl⟩
theorem newA_ok {h x y : Nat} {s : Int} : ∃ h' x' y' s' c, newA h x y s = .tuple #[.agg #[.float .f32 h', .float .f32 x', .float .f32 y', .int .i8 s'], .int .i64 c] := by
  unfold newA zeroT; split <;> exact ⟨_, _, _, _, _, rfl⟩
end Go.Proofs.Ytgpmmpgbghjieaa
