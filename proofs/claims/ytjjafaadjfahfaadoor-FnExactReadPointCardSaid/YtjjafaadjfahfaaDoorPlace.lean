/- The place of an eighth of a turn: contracts and the law. -/
import Derived.Test.YtjjafaadjfahfaaDoorSame
namespace Go.Proofs.YtjjafaadjfahfaaDoor
open Go.RowKit Ieee
set_option maxRecDepth 100000

def placeR (t : Int) : Nat := if t = 0 then 1065353216 else if t = 1 then 1060438016 else if t = 2 then 0 else if t = 3 then 3207921664 else if t = 4 then 3212836864 else if t = 5 then 3207921664 else if t = 6 then 0 else 1060438016
def placeI (t : Int) : Nat := if t = 0 then 0 else if t = 1 then 1060438016 else if t = 2 then 1065353216 else if t = 3 then 1060438016 else if t = 4 then 0 else if t = 5 then 3207921664 else if t = 6 then 3212836864 else 3207921664

theorem sameComplex_any (a b c d : Nat) (ha : a < 18446744073709551616) (hb : b < 18446744073709551616) (hac : cn6 a = cn6 c) (hbd : cn6 b = cn6 d) (w : World) :
    Calls Tryd.prog 6 #[.complex .f64 a b, .complex .f64 c d] w fun e w' => e = .returned (.bool true) ∧ w = w' := by
  have H : Hid (∀ p q (w : World), (p = a ∧ q = c) ∨ (p = b ∧ q = d) → Calls Tryd.prog 11 #[.float .f64 p, .float .f64 q] w fun e w' => e = .returned (.bool true) ∧ w = w') := Lib.hid (by
    rintro p q w (⟨rfl, rfl⟩ | ⟨rfl, rfl⟩)
    · exact sameFloat_any _ _ ha hac w
    · exact sameFloat_any _ _ hb hbd w)
  clear ha hb hac hbd
  go_enter Tryd.func6, Tryd.ntmps6
  go_wp2_with (go_at_call 11; refine (H.out _ _ _ (by first | exact .inl ⟨rfl, rfl⟩ | exact .inr ⟨rfl, rfl⟩)).mono ?_; rintro e w' ⟨rfl, rfl⟩)
  all_goals (go_ret; exact ⟨by simp, rfl⟩)
def widePlace (b : Nat) : Nat := if b = 0 then 0 else if b = 1065353216 then 4607182418800017408 else if b = 1060438016 then 4604543590893355008 else if b = 3207921664 then 13827915627748130816 else 13830554455654793216
theorem widePlace_lt (b : Nat) : widePlace b < 18446744073709551616 := by
  unfold widePlace
  split
  · decide
  split
  · decide
  split
  · decide
  split
  · decide
  · decide
theorem conv_p0 (w : World) : (convert 22 26 (.complex .f32 (placeR 0) (placeI 0))).run Tryd.prog w = .ok (.complex .f64 (widePlace (placeR 0)) (widePlace (placeI 0))) w := by kernel_rfl
theorem conv_p1 (w : World) : (convert 22 26 (.complex .f32 (placeR 1) (placeI 1))).run Tryd.prog w = .ok (.complex .f64 (widePlace (placeR 1)) (widePlace (placeI 1))) w := by kernel_rfl
theorem conv_p2 (w : World) : (convert 22 26 (.complex .f32 (placeR 2) (placeI 2))).run Tryd.prog w = .ok (.complex .f64 (widePlace (placeR 2)) (widePlace (placeI 2))) w := by kernel_rfl
theorem conv_p3 (w : World) : (convert 22 26 (.complex .f32 (placeR 3) (placeI 3))).run Tryd.prog w = .ok (.complex .f64 (widePlace (placeR 3)) (widePlace (placeI 3))) w := by kernel_rfl
theorem conv_p4 (w : World) : (convert 22 26 (.complex .f32 (placeR 4) (placeI 4))).run Tryd.prog w = .ok (.complex .f64 (widePlace (placeR 4)) (widePlace (placeI 4))) w := by kernel_rfl
theorem conv_p5 (w : World) : (convert 22 26 (.complex .f32 (placeR 5) (placeI 5))).run Tryd.prog w = .ok (.complex .f64 (widePlace (placeR 5)) (widePlace (placeI 5))) w := by kernel_rfl
theorem conv_p6 (w : World) : (convert 22 26 (.complex .f32 (placeR 6) (placeI 6))).run Tryd.prog w = .ok (.complex .f64 (widePlace (placeR 6)) (widePlace (placeI 6))) w := by kernel_rfl
theorem conv_p7 (w : World) : (convert 22 26 (.complex .f32 (placeR 7) (placeI 7))).run Tryd.prog w = .ok (.complex .f64 (widePlace (placeR 7)) (widePlace (placeI 7))) w := by kernel_rfl
theorem conv_place (t : Int) (h0 : 0 ≤ t) (h7 : t ≤ 7) (w : World) : (convert 22 26 (.complex .f32 (placeR t) (placeI t))).run Tryd.prog w = .ok (.complex .f64 (widePlace (placeR t)) (widePlace (placeI t))) w := by
  have ht : t = 0 ∨ t = 1 ∨ t = 2 ∨ t = 3 ∨ t = 4 ∨ t = 5 ∨ t = 6 ∨ t = 7 := by omega
  rcases ht with rfl | rfl | rfl | rfl | rfl | rfl | rfl | rfl
  · exact conv_p0 w
  · exact conv_p1 w
  · exact conv_p2 w
  · exact conv_p3 w
  · exact conv_p4 w
  · exact conv_p5 w
  · exact conv_p6 w
  · exact conv_p7 w
theorem conv_zero (w : World) : (convert 22 26 (.complex .f32 0 0)).run Tryd.prog w = .ok (.complex .f64 (widePlace 0) (widePlace 0)) w := by kernel_rfl
theorem placeA_ok (t : Int) : ∃ a b c, (if iin t 0 7 = true then Value.tuple #[.complex .f32 (placeR t) (placeI t), .int .i64 0] else .tuple #[.complex .f32 0 0, .int .i64 2]) = .tuple #[.complex .f32 a b, .int .i64 c] ∧
    ∀ w, (convert 22 26 (.complex .f32 a b)).run Tryd.prog w = .ok (.complex .f64 (widePlace a) (widePlace b)) w := by
  cases hi : iin t 0 7
  · exact ⟨0, 0, 2, by simp, conv_zero⟩
  · have ht : 0 ≤ t ∧ t ≤ 7 := by simpa [iin] using hi
    exact ⟨placeR t, placeI t, 0, by simp, fun w => conv_place t ht.1 ht.2 w⟩
end Go.Proofs.YtjjafaadjfahfaaDoor
