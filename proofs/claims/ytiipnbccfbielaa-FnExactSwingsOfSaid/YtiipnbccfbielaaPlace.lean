/- The place of an eighth of a turn: contracts and the law. -/
import Derived.Test.YtiipnbccfbielaaSame
namespace Go.Proofs.Ytiipnbccfbielaa
open Go.RowKit Ieee

def placeR (t : Int) : Nat := if t = 0 then 1065353216 else if t = 1 then 1060438016 else if t = 2 then 0 else if t = 3 then 3207921664 else if t = 4 then 3212836864 else if t = 5 then 3207921664 else if t = 6 then 0 else 1060438016
def placeI (t : Int) : Nat := if t = 0 then 0 else if t = 1 then 1060438016 else if t = 2 then 1065353216 else if t = 3 then 1060438016 else if t = 4 then 0 else if t = 5 then 3207921664 else if t = 6 then 3212836864 else 3207921664

theorem l07Place_any (t : Int) (h0 : 0 ≤ t) (h7 : t ≤ 7) (w : World) :
    Calls Try.prog 60 #[.int .i64 t] w fun e w' => e = .returned (.complex .f32 (placeR t) (placeI t)) ∧ w = w' := by
  have hneg : ∀ w : World, (Op.unary .neg (.float .f32 1060438016)).run Try.prog w = .ok (.float .f32 3207921664) w := fun w => by kernel_rfl
  have ht : t = 0 ∨ t = 1 ∨ t = 2 ∨ t = 3 ∨ t = 4 ∨ t = 5 ∨ t = 6 ∨ t = 7 := by omega
  rcases ht with rfl | rfl | rfl | rfl | rfl | rfl | rfl | rfl
  all_goals
    go_enter Try.func60, Try.ntmps60
    go_wp2
    go_ret
    exact ⟨rfl, rfl⟩
theorem place_any (t : Int) (h0 : 0 ≤ t) (h7 : t ≤ 7) (w : World) :
    Calls Try.prog 62 #[.int .i64 t] w fun e w' => e = .returned (.complex .f32 (placeR t) (placeI t)) ∧ Below w.heap.size w w' := by
  have ht : t = 0 ∨ t = 1 ∨ t = 2 ∨ t = 3 ∨ t = 4 ∨ t = 5 ∨ t = 6 ∨ t = 7 := by omega
  rcases ht with rfl | rfl | rfl | rfl | rfl | rfl | rfl | rfl
  all_goals
    go_enter Try.func62, Try.ntmps62
    go_wp2
    go_ret
    refine ⟨rfl, ?_⟩
    (repeat (first | with_reducible exact Below.refl _ _ | with_reducible refine bset ?_ (by first | (simp; done) | (simp; omega) | omega) _ | with_reducible refine balloc ?_ _ | with_reducible refine bdrewN ?_ _ | with_reducible refine bdrew ?_ | with_reducible refine bstep ?_ (by assumption)))
theorem placeOf_spec (t : Int) (w : World) :
    Calls Try.prog 12 #[.int .i64 t] w fun e w' => e = .returned (if iin t 0 7 = true then .tuple #[.complex .f32 (placeR t) (placeI t), .int .i64 0] else .tuple #[.complex .f32 0 0, .int .i64 2]) ∧ Below w.heap.size w w' := by
  cases hi : iin t 0 7
  · go_enter Try.func12, Try.ntmps12
    go_wp2_with (go_at_call 59; refine (l00In_any _ _ _ _).mono ?_; rintro e w' ⟨rfl, rfl⟩)
    go_ret2
    refine ⟨by simp, ?_⟩
    (repeat (first | with_reducible exact Below.refl _ _ | with_reducible refine bset ?_ (by first | (simp; done) | (simp; omega) | omega) _ | with_reducible refine balloc ?_ _ | with_reducible refine bdrewN ?_ _ | with_reducible refine bdrew ?_ | with_reducible refine bstep ?_ (by assumption)))
  · have ht : 0 ≤ t ∧ t ≤ 7 := by simpa [iin] using hi
    go_enter Try.func12, Try.ntmps12
    go_wp2_with (first | (go_at_call 59; refine (l00In_any _ _ _ _).mono ?_; rintro e w' ⟨rfl, rfl⟩) | (go_at_call 60; refine (l07Place_any _ ht.1 ht.2 _).mono ?_; rintro e w' ⟨rfl, rfl⟩))
    go_ret2
    refine ⟨by simp, ?_⟩
    (repeat (first | with_reducible exact Below.refl _ _ | with_reducible refine bset ?_ (by first | (simp; done) | (simp; omega) | omega) _ | with_reducible refine balloc ?_ _ | with_reducible refine bdrewN ?_ _ | with_reducible refine bdrew ?_ | with_reducible refine bstep ?_ (by assumption)))
set_option maxRecDepth 10000 in
theorem placeOf_impl (t : Int) (w : World) :
    Calls Try.prog 13 #[.int .i64 t] w fun e w' => e = .returned (if iin t 0 7 = true then .tuple #[.complex .f32 (placeR t) (placeI t), .int .i64 0] else .tuple #[.complex .f32 0 0, .int .i64 2]) ∧ Below w.heap.size w w' := by
  cases hi : iin t 0 7
  · go_enter Try.func13, Try.ntmps13
    go_wp2_with (go_at_call 61; refine (within_any _ _ _ _).mono ?_; rintro e w' ⟨rfl, rfl⟩)
    go_ret2
    refine ⟨by simp, ?_⟩
    (repeat (first | with_reducible exact Below.refl _ _ | with_reducible refine bset ?_ (by first | (simp; done) | (simp; omega) | omega) _ | with_reducible refine balloc ?_ _ | with_reducible refine bdrewN ?_ _ | with_reducible refine bdrew ?_ | with_reducible refine bstep ?_ (by assumption)))
  · have ht : 0 ≤ t ∧ t ≤ 7 := by simpa [iin] using hi
    go_enter Try.func13, Try.ntmps13
    go_wp2_with (first | (go_at_call 61; refine (within_any _ _ _ _).mono ?_; rintro e w' ⟨rfl, rfl⟩) | (go_at_call 62; refine (place_any _ ht.1 ht.2 _).mono ?_; rintro e w1 ⟨rfl, hb1⟩; have hc1 := bc hb1; have hf1 := bf hb1; have hs1 := hb1.size; (try simp at hs1); (try have hz10 : w.heap.size < w1.heap.size := by omega); (try have hz11 : w.heap.size + 1 < w1.heap.size := by omega); (try have hz12 : w.heap.size + 1 + 1 < w1.heap.size := by omega); (try have hz13 : w.heap.size + 1 + 1 + 1 < w1.heap.size := by omega)))
    go_ret2
    refine ⟨by simp, ?_⟩
    (repeat (first | with_reducible exact Below.refl _ _ | with_reducible refine bset ?_ (by first | (simp; done) | (simp; omega) | omega) _ | with_reducible refine balloc ?_ _ | with_reducible refine bdrewN ?_ _ | with_reducible refine bdrew ?_ | with_reducible refine bstep ?_ (by assumption)))
theorem sameComplex_any (a b c d : Nat) (ha : a < 18446744073709551616) (hb : b < 18446744073709551616) (hac : cn6 a = cn6 c) (hbd : cn6 b = cn6 d) (w : World) :
    Calls Try.prog 14 #[.complex .f64 a b, .complex .f64 c d] w fun e w' => e = .returned (.bool true) ∧ w = w' := by
  have H : Hid (∀ p q (w : World), (p = a ∧ q = c) ∨ (p = b ∧ q = d) → Calls Try.prog 26 #[.float .f64 p, .float .f64 q] w fun e w' => e = .returned (.bool true) ∧ w = w') := Lib.hid (by
    rintro p q w (⟨rfl, rfl⟩ | ⟨rfl, rfl⟩)
    · exact sameFloat_any _ _ ha hac w
    · exact sameFloat_any _ _ hb hbd w)
  clear ha hb hac hbd
  go_enter Try.func14, Try.ntmps14
  go_wp2_with (go_at_call 26; refine (H.out _ _ _ (by first | exact .inl ⟨rfl, rfl⟩ | exact .inr ⟨rfl, rfl⟩)).mono ?_; rintro e w' ⟨rfl, rfl⟩)
  all_goals (go_ret; exact ⟨by simp, rfl⟩)
def widePlace (b : Nat) : Nat := if b = 0 then 0 else if b = 1065353216 then 4607182418800017408 else if b = 1060438016 then 4604543590893355008 else if b = 3207921664 then 13827915627748130816 else 13830554455654793216
theorem widePlace_lt (b : Nat) : widePlace b < 18446744073709551616 := by
  unfold widePlace
  split
  · decide
  split
  · decide
  split
  · decide
  split
  · decide
  · decide
theorem conv_p0 (w : World) : (convert 22 26 (.complex .f32 (placeR 0) (placeI 0))).run Try.prog w = .ok (.complex .f64 (widePlace (placeR 0)) (widePlace (placeI 0))) w := by kernel_rfl
theorem conv_p1 (w : World) : (convert 22 26 (.complex .f32 (placeR 1) (placeI 1))).run Try.prog w = .ok (.complex .f64 (widePlace (placeR 1)) (widePlace (placeI 1))) w := by kernel_rfl
theorem conv_p2 (w : World) : (convert 22 26 (.complex .f32 (placeR 2) (placeI 2))).run Try.prog w = .ok (.complex .f64 (widePlace (placeR 2)) (widePlace (placeI 2))) w := by kernel_rfl
theorem conv_p3 (w : World) : (convert 22 26 (.complex .f32 (placeR 3) (placeI 3))).run Try.prog w = .ok (.complex .f64 (widePlace (placeR 3)) (widePlace (placeI 3))) w := by kernel_rfl
theorem conv_p4 (w : World) : (convert 22 26 (.complex .f32 (placeR 4) (placeI 4))).run Try.prog w = .ok (.complex .f64 (widePlace (placeR 4)) (widePlace (placeI 4))) w := by kernel_rfl
theorem conv_p5 (w : World) : (convert 22 26 (.complex .f32 (placeR 5) (placeI 5))).run Try.prog w = .ok (.complex .f64 (widePlace (placeR 5)) (widePlace (placeI 5))) w := by kernel_rfl
theorem conv_p6 (w : World) : (convert 22 26 (.complex .f32 (placeR 6) (placeI 6))).run Try.prog w = .ok (.complex .f64 (widePlace (placeR 6)) (widePlace (placeI 6))) w := by kernel_rfl
theorem conv_p7 (w : World) : (convert 22 26 (.complex .f32 (placeR 7) (placeI 7))).run Try.prog w = .ok (.complex .f64 (widePlace (placeR 7)) (widePlace (placeI 7))) w := by kernel_rfl
theorem conv_place (t : Int) (h0 : 0 ≤ t) (h7 : t ≤ 7) (w : World) : (convert 22 26 (.complex .f32 (placeR t) (placeI t))).run Try.prog w = .ok (.complex .f64 (widePlace (placeR t)) (widePlace (placeI t))) w := by
  have ht : t = 0 ∨ t = 1 ∨ t = 2 ∨ t = 3 ∨ t = 4 ∨ t = 5 ∨ t = 6 ∨ t = 7 := by omega
  rcases ht with rfl | rfl | rfl | rfl | rfl | rfl | rfl | rfl
  · exact conv_p0 w
  · exact conv_p1 w
  · exact conv_p2 w
  · exact conv_p3 w
  · exact conv_p4 w
  · exact conv_p5 w
  · exact conv_p6 w
  · exact conv_p7 w
theorem conv_zero (w : World) : (convert 22 26 (.complex .f32 0 0)).run Try.prog w = .ok (.complex .f64 (widePlace 0) (widePlace 0)) w := by kernel_rfl
theorem placeA_ok (t : Int) : ∃ a b c, (if iin t 0 7 = true then Value.tuple #[.complex .f32 (placeR t) (placeI t), .int .i64 0] else .tuple #[.complex .f32 0 0, .int .i64 2]) = .tuple #[.complex .f32 a b, .int .i64 c] ∧
    ∀ w, (convert 22 26 (.complex .f32 a b)).run Try.prog w = .ok (.complex .f64 (widePlace a) (widePlace b)) w := by
  cases hi : iin t 0 7
  · exact ⟨0, 0, 2, by simp, conv_zero⟩
  · have ht : 0 ≤ t ∧ t ≤ 7 := by simpa [iin] using hi
    exact ⟨placeR t, placeI t, 0, by simp, fun w => conv_place t ht.1 ht.2 w⟩
set_option maxHeartbeats 1000000 in
theorem law_placeOf (t : Int) (_ : -9223372036854775808 ≤ t) (_ : t ≤ 9223372036854775807) (w : World) :
    Calls Try.prog 3 #[.int .i64 t] w fun e w' => e = .returned (.bool true) ∧ Below w.heap.size w w' := by
  have h1 := placeOf_spec t
  have h2 := placeOf_impl t
  obtain ⟨a, b, c, hr, hcv⟩ := placeA_ok t
  rw [hr] at h1 h2
  have H1 := Lib.hid h1
  have H2 := Lib.hid h2
  clear hr h1 h2
  go_enter Try.func3, Try.ntmps3
  go_wp2_with (first | (go_at_call 12; refine (H1.out _).mono ?_; rintro e w2 ⟨rfl, hb2⟩; have hc2 := bc hb2; have hf2 := bf hb2; have hs2 := hb2.size; (try simp at hs2); (try have hz20 : w.heap.size < w2.heap.size := by omega); (try have hz21 : w.heap.size + 1 < w2.heap.size := by omega); (try have hz22 : w.heap.size + 1 + 1 < w2.heap.size := by omega); (try have hz23 : w.heap.size + 1 + 1 + 1 < w2.heap.size := by omega)) | (go_at_call 13; refine (H2.out _).mono ?_; rintro e w3 ⟨rfl, hb3⟩; have hc3 := bc hb3; have hf3 := bf hb3; have hs3 := hb3.size; (try simp at hs3); (try have hz30 : w.heap.size < w3.heap.size := by omega); (try have hz31 : w.heap.size + 1 < w3.heap.size := by omega); (try have hz32 : w.heap.size + 1 + 1 < w3.heap.size := by omega); (try have hz33 : w.heap.size + 1 + 1 + 1 < w3.heap.size := by omega); (try have hy320 : w2.heap.size < w3.heap.size := by omega); (try have hy321 : w2.heap.size + 1 < w3.heap.size := by omega)) | (go_at_call 14; refine (sameComplex_any _ _ _ _ (widePlace_lt _) (widePlace_lt _) rfl rfl _).mono ?_; rintro e w' ⟨rfl, rfl⟩))
  all_goals (go_ret; refine ⟨by simp, ?_⟩)
  all_goals (repeat (first | with_reducible exact Below.refl _ _ | with_reducible refine bset ?_ (by first | (simp; done) | (simp; omega) | omega) _ | with_reducible refine balloc ?_ _ | with_reducible refine bdrewN ?_ _ | with_reducible refine bdrew ?_ | with_reducible refine bstep ?_ (by assumption)))
end Go.Proofs.Ytiipnbccfbielaa
