/- The swing of an order, the program's loop. -/
import Derived.Test.YtiipnbccfbielaaSwing
namespace Go.Proofs.Ytiipnbccfbielaa
open Go.RowKit Ieee
open Go.Proofs.YtiipnbccfbielaaW.PrintWords
set_option maxRecDepth 100000
attribute [local irreducible] wpRel

set_option maxHeartbeats 8000000 in
theorem swing_impl_1 (y0 y1 y2 y3 y4 y5 y6 y7 : Nat) (w : World) :
    Calls Try.prog 70 #[(.agg #[.float .f32 y0, .float .f32 y1, .float .f32 y2, .float .f32 y3, .float .f32 y4, .float .f32 y5, .float .f32 y6, .float .f32 y7]), .int .i64 1] w (CQ (swi (f8 y0 y1 y2 y3 y4 y5 y6 y7) 1 8).1 (swi (f8 y0 y1 y2 y3 y4 y5 y6 y7) 1 8).2 w) := by
  go_enter Try.func70, Try.ntmps70
  go_wp2
  go_loopw [5, 9] (fun s i wr => ∃ k r t : Nat, ∃ z : Int, k ≤ 8 ∧ z = k ∧ i = .int .i64 z ∧ s = .complex .f32 r t ∧ Hid (FV r (swi (f8 y0 y1 y2 y3 y4 y5 y6 y7) 1 k).1 ∧ FV t (swi (f8 y0 y1 y2 y3 y4 y5 y6 y7) 1 k).2) ∧ Below w.heap.size w wr) (fun _ i _ => 8 - (intOf i).toNat)
  case atStart => exact ⟨0, 0, 0, 0, by omega, rfl, rfl, rfl, Lib.hid ⟨FV_zero, FV_zero⟩, by (repeat (first | with_reducible exact Below.refl _ _ | with_reducible refine bset ?_ (by first | (simp; done) | (simp; omega) | omega) _ | with_reducible refine balloc ?_ _ | with_reducible refine bdrewN ?_ _ | with_reducible refine bdrew ?_ | with_reducible refine bstep ?_ (by assumption)))⟩
  case round =>
    obtain ⟨k, r, t, z, hk, hz, rfl, rfl, HF, hb⟩ := hrel
    have hk8 : k = 0 ∨ k = 1 ∨ k = 2 ∨ k = 3 ∨ k = 4 ∨ k = 5 ∨ k = 6 ∨ k = 7 ∨ k = 8 := by omega
    rcases hk8 with rfl | rfl | rfl | rfl | rfl | rfl | rfl | rfl | rfl
    · obtain rfl : z = 0 := by simpa using hz
      clear hz hk
      have ix : ∀ w, (Instr.index 36 (.agg #[.float .f32 y0, .float .f32 y1, .float .f32 y2, .float .f32 y3, .float .f32 y4, .float .f32 y5, .float .f32 y6, .float .f32 y7]) (.int .i64 0)).run Try.prog w = .ok (.float .f32 y0) w := fun _ => by kernel_rfl
      have HS := Lib.hid (show swi (f8 y0 y1 y2 y3 y4 y5 y6 y7) 1 (0 + 1) = (fadd (swi (f8 y0 y1 y2 y3 y4 y5 y6 y7) 1 0).1 (fmul (placeR 0) (cn y0)), fadd (swi (f8 y0 y1 y2 y3 y4 y5 y6 y7) 1 0).2 (fmul (placeI 0) (cn y0))) from rfl)
      go_wp2_with (first | (go_at_call 62; refine (place_any 0 (by decide) (by decide) _).mono ?_; rintro e w1 ⟨rfl, hb1⟩) | (go_at_call 99; refine (partOf_any _ _ _ _).mono ?_; rintro e w2 ⟨r2, t2, rfl, hr2, ht2, hb2⟩) | (go_at_call 98; refine (plusPoint_any _ _ _ _ _).mono ?_; rintro e w3 ⟨r3, t3, rfl, hr3, ht3, hb3⟩))
      go_roundw
      case rel =>
        rw [HF.out.1.1, hr2.1, (cn_place _).1] at hr3
        rw [HF.out.2.1, ht2.1, (cn_place _).2] at ht3
        exact ⟨0 + 1, r3, t3, 0 + 1, by omega, by simp, rfl, rfl, Lib.hid (by rw [HS.out]; exact ⟨hr3, ht3⟩), bstep (bstep (bstep hb hb1) hb2) hb3⟩
      case measure => simp [intOf]
    · obtain rfl : z = 1 := by simpa using hz
      clear hz hk
      have ix : ∀ w, (Instr.index 36 (.agg #[.float .f32 y0, .float .f32 y1, .float .f32 y2, .float .f32 y3, .float .f32 y4, .float .f32 y5, .float .f32 y6, .float .f32 y7]) (.int .i64 1)).run Try.prog w = .ok (.float .f32 y1) w := fun _ => by kernel_rfl
      have HS := Lib.hid (show swi (f8 y0 y1 y2 y3 y4 y5 y6 y7) 1 (1 + 1) = (fadd (swi (f8 y0 y1 y2 y3 y4 y5 y6 y7) 1 1).1 (fmul (placeR 7) (cn y1)), fadd (swi (f8 y0 y1 y2 y3 y4 y5 y6 y7) 1 1).2 (fmul (placeI 7) (cn y1))) from rfl)
      go_wp2_with (first | (go_at_call 62; refine (place_any 7 (by decide) (by decide) _).mono ?_; rintro e w1 ⟨rfl, hb1⟩) | (go_at_call 99; refine (partOf_any _ _ _ _).mono ?_; rintro e w2 ⟨r2, t2, rfl, hr2, ht2, hb2⟩) | (go_at_call 98; refine (plusPoint_any _ _ _ _ _).mono ?_; rintro e w3 ⟨r3, t3, rfl, hr3, ht3, hb3⟩))
      go_roundw
      case rel =>
        rw [HF.out.1.1, hr2.1, (cn_place _).1] at hr3
        rw [HF.out.2.1, ht2.1, (cn_place _).2] at ht3
        exact ⟨1 + 1, r3, t3, 1 + 1, by omega, by simp, rfl, rfl, Lib.hid (by rw [HS.out]; exact ⟨hr3, ht3⟩), bstep (bstep (bstep hb hb1) hb2) hb3⟩
      case measure => simp [intOf]
    · obtain rfl : z = 2 := by simpa using hz
      clear hz hk
      have ix : ∀ w, (Instr.index 36 (.agg #[.float .f32 y0, .float .f32 y1, .float .f32 y2, .float .f32 y3, .float .f32 y4, .float .f32 y5, .float .f32 y6, .float .f32 y7]) (.int .i64 2)).run Try.prog w = .ok (.float .f32 y2) w := fun _ => by kernel_rfl
      have HS := Lib.hid (show swi (f8 y0 y1 y2 y3 y4 y5 y6 y7) 1 (2 + 1) = (fadd (swi (f8 y0 y1 y2 y3 y4 y5 y6 y7) 1 2).1 (fmul (placeR 6) (cn y2)), fadd (swi (f8 y0 y1 y2 y3 y4 y5 y6 y7) 1 2).2 (fmul (placeI 6) (cn y2))) from rfl)
      go_wp2_with (first | (go_at_call 62; refine (place_any 6 (by decide) (by decide) _).mono ?_; rintro e w1 ⟨rfl, hb1⟩) | (go_at_call 99; refine (partOf_any _ _ _ _).mono ?_; rintro e w2 ⟨r2, t2, rfl, hr2, ht2, hb2⟩) | (go_at_call 98; refine (plusPoint_any _ _ _ _ _).mono ?_; rintro e w3 ⟨r3, t3, rfl, hr3, ht3, hb3⟩))
      go_roundw
      case rel =>
        rw [HF.out.1.1, hr2.1, (cn_place _).1] at hr3
        rw [HF.out.2.1, ht2.1, (cn_place _).2] at ht3
        exact ⟨2 + 1, r3, t3, 2 + 1, by omega, by simp, rfl, rfl, Lib.hid (by rw [HS.out]; exact ⟨hr3, ht3⟩), bstep (bstep (bstep hb hb1) hb2) hb3⟩
      case measure => simp [intOf]
    · obtain rfl : z = 3 := by simpa using hz
      clear hz hk
      have ix : ∀ w, (Instr.index 36 (.agg #[.float .f32 y0, .float .f32 y1, .float .f32 y2, .float .f32 y3, .float .f32 y4, .float .f32 y5, .float .f32 y6, .float .f32 y7]) (.int .i64 3)).run Try.prog w = .ok (.float .f32 y3) w := fun _ => by kernel_rfl
      have HS := Lib.hid (show swi (f8 y0 y1 y2 y3 y4 y5 y6 y7) 1 (3 + 1) = (fadd (swi (f8 y0 y1 y2 y3 y4 y5 y6 y7) 1 3).1 (fmul (placeR 5) (cn y3)), fadd (swi (f8 y0 y1 y2 y3 y4 y5 y6 y7) 1 3).2 (fmul (placeI 5) (cn y3))) from rfl)
      go_wp2_with (first | (go_at_call 62; refine (place_any 5 (by decide) (by decide) _).mono ?_; rintro e w1 ⟨rfl, hb1⟩) | (go_at_call 99; refine (partOf_any _ _ _ _).mono ?_; rintro e w2 ⟨r2, t2, rfl, hr2, ht2, hb2⟩) | (go_at_call 98; refine (plusPoint_any _ _ _ _ _).mono ?_; rintro e w3 ⟨r3, t3, rfl, hr3, ht3, hb3⟩))
      go_roundw
      case rel =>
        rw [HF.out.1.1, hr2.1, (cn_place _).1] at hr3
        rw [HF.out.2.1, ht2.1, (cn_place _).2] at ht3
        exact ⟨3 + 1, r3, t3, 3 + 1, by omega, by simp, rfl, rfl, Lib.hid (by rw [HS.out]; exact ⟨hr3, ht3⟩), bstep (bstep (bstep hb hb1) hb2) hb3⟩
      case measure => simp [intOf]
    · obtain rfl : z = 4 := by simpa using hz
      clear hz hk
      have ix : ∀ w, (Instr.index 36 (.agg #[.float .f32 y0, .float .f32 y1, .float .f32 y2, .float .f32 y3, .float .f32 y4, .float .f32 y5, .float .f32 y6, .float .f32 y7]) (.int .i64 4)).run Try.prog w = .ok (.float .f32 y4) w := fun _ => by kernel_rfl
      have HS := Lib.hid (show swi (f8 y0 y1 y2 y3 y4 y5 y6 y7) 1 (4 + 1) = (fadd (swi (f8 y0 y1 y2 y3 y4 y5 y6 y7) 1 4).1 (fmul (placeR 4) (cn y4)), fadd (swi (f8 y0 y1 y2 y3 y4 y5 y6 y7) 1 4).2 (fmul (placeI 4) (cn y4))) from rfl)
      go_wp2_with (first | (go_at_call 62; refine (place_any 4 (by decide) (by decide) _).mono ?_; rintro e w1 ⟨rfl, hb1⟩) | (go_at_call 99; refine (partOf_any _ _ _ _).mono ?_; rintro e w2 ⟨r2, t2, rfl, hr2, ht2, hb2⟩) | (go_at_call 98; refine (plusPoint_any _ _ _ _ _).mono ?_; rintro e w3 ⟨r3, t3, rfl, hr3, ht3, hb3⟩))
      go_roundw
      case rel =>
        rw [HF.out.1.1, hr2.1, (cn_place _).1] at hr3
        rw [HF.out.2.1, ht2.1, (cn_place _).2] at ht3
        exact ⟨4 + 1, r3, t3, 4 + 1, by omega, by simp, rfl, rfl, Lib.hid (by rw [HS.out]; exact ⟨hr3, ht3⟩), bstep (bstep (bstep hb hb1) hb2) hb3⟩
      case measure => simp [intOf]
    · obtain rfl : z = 5 := by simpa using hz
      clear hz hk
      have ix : ∀ w, (Instr.index 36 (.agg #[.float .f32 y0, .float .f32 y1, .float .f32 y2, .float .f32 y3, .float .f32 y4, .float .f32 y5, .float .f32 y6, .float .f32 y7]) (.int .i64 5)).run Try.prog w = .ok (.float .f32 y5) w := fun _ => by kernel_rfl
      have HS := Lib.hid (show swi (f8 y0 y1 y2 y3 y4 y5 y6 y7) 1 (5 + 1) = (fadd (swi (f8 y0 y1 y2 y3 y4 y5 y6 y7) 1 5).1 (fmul (placeR 3) (cn y5)), fadd (swi (f8 y0 y1 y2 y3 y4 y5 y6 y7) 1 5).2 (fmul (placeI 3) (cn y5))) from rfl)
      go_wp2_with (first | (go_at_call 62; refine (place_any 3 (by decide) (by decide) _).mono ?_; rintro e w1 ⟨rfl, hb1⟩) | (go_at_call 99; refine (partOf_any _ _ _ _).mono ?_; rintro e w2 ⟨r2, t2, rfl, hr2, ht2, hb2⟩) | (go_at_call 98; refine (plusPoint_any _ _ _ _ _).mono ?_; rintro e w3 ⟨r3, t3, rfl, hr3, ht3, hb3⟩))
      go_roundw
      case rel =>
        rw [HF.out.1.1, hr2.1, (cn_place _).1] at hr3
        rw [HF.out.2.1, ht2.1, (cn_place _).2] at ht3
        exact ⟨5 + 1, r3, t3, 5 + 1, by omega, by simp, rfl, rfl, Lib.hid (by rw [HS.out]; exact ⟨hr3, ht3⟩), bstep (bstep (bstep hb hb1) hb2) hb3⟩
      case measure => simp [intOf]
    · obtain rfl : z = 6 := by simpa using hz
      clear hz hk
      have ix : ∀ w, (Instr.index 36 (.agg #[.float .f32 y0, .float .f32 y1, .float .f32 y2, .float .f32 y3, .float .f32 y4, .float .f32 y5, .float .f32 y6, .float .f32 y7]) (.int .i64 6)).run Try.prog w = .ok (.float .f32 y6) w := fun _ => by kernel_rfl
      have HS := Lib.hid (show swi (f8 y0 y1 y2 y3 y4 y5 y6 y7) 1 (6 + 1) = (fadd (swi (f8 y0 y1 y2 y3 y4 y5 y6 y7) 1 6).1 (fmul (placeR 2) (cn y6)), fadd (swi (f8 y0 y1 y2 y3 y4 y5 y6 y7) 1 6).2 (fmul (placeI 2) (cn y6))) from rfl)
      go_wp2_with (first | (go_at_call 62; refine (place_any 2 (by decide) (by decide) _).mono ?_; rintro e w1 ⟨rfl, hb1⟩) | (go_at_call 99; refine (partOf_any _ _ _ _).mono ?_; rintro e w2 ⟨r2, t2, rfl, hr2, ht2, hb2⟩) | (go_at_call 98; refine (plusPoint_any _ _ _ _ _).mono ?_; rintro e w3 ⟨r3, t3, rfl, hr3, ht3, hb3⟩))
      go_roundw
      case rel =>
        rw [HF.out.1.1, hr2.1, (cn_place _).1] at hr3
        rw [HF.out.2.1, ht2.1, (cn_place _).2] at ht3
        exact ⟨6 + 1, r3, t3, 6 + 1, by omega, by simp, rfl, rfl, Lib.hid (by rw [HS.out]; exact ⟨hr3, ht3⟩), bstep (bstep (bstep hb hb1) hb2) hb3⟩
      case measure => simp [intOf]
    · obtain rfl : z = 7 := by simpa using hz
      clear hz hk
      have ix : ∀ w, (Instr.index 36 (.agg #[.float .f32 y0, .float .f32 y1, .float .f32 y2, .float .f32 y3, .float .f32 y4, .float .f32 y5, .float .f32 y6, .float .f32 y7]) (.int .i64 7)).run Try.prog w = .ok (.float .f32 y7) w := fun _ => by kernel_rfl
      have HS := Lib.hid (show swi (f8 y0 y1 y2 y3 y4 y5 y6 y7) 1 (7 + 1) = (fadd (swi (f8 y0 y1 y2 y3 y4 y5 y6 y7) 1 7).1 (fmul (placeR 1) (cn y7)), fadd (swi (f8 y0 y1 y2 y3 y4 y5 y6 y7) 1 7).2 (fmul (placeI 1) (cn y7))) from rfl)
      go_wp2_with (first | (go_at_call 62; refine (place_any 1 (by decide) (by decide) _).mono ?_; rintro e w1 ⟨rfl, hb1⟩) | (go_at_call 99; refine (partOf_any _ _ _ _).mono ?_; rintro e w2 ⟨r2, t2, rfl, hr2, ht2, hb2⟩) | (go_at_call 98; refine (plusPoint_any _ _ _ _ _).mono ?_; rintro e w3 ⟨r3, t3, rfl, hr3, ht3, hb3⟩))
      go_roundw
      case rel =>
        rw [HF.out.1.1, hr2.1, (cn_place _).1] at hr3
        rw [HF.out.2.1, ht2.1, (cn_place _).2] at ht3
        exact ⟨7 + 1, r3, t3, 7 + 1, by omega, by simp, rfl, rfl, Lib.hid (by rw [HS.out]; exact ⟨hr3, ht3⟩), bstep (bstep (bstep hb hb1) hb2) hb3⟩
      case measure => simp [intOf]
    · obtain rfl : z = 8 := by simpa using hz
      clear hz hk
      have HR := HF.out
      go_wp2
      go_ret
      exact ⟨r, t, rfl, HR.1, HR.2, hb⟩

set_option maxHeartbeats 8000000 in
theorem swing_impl_2 (y0 y1 y2 y3 y4 y5 y6 y7 : Nat) (w : World) :
    Calls Try.prog 70 #[(.agg #[.float .f32 y0, .float .f32 y1, .float .f32 y2, .float .f32 y3, .float .f32 y4, .float .f32 y5, .float .f32 y6, .float .f32 y7]), .int .i64 2] w (CQ (swi (f8 y0 y1 y2 y3 y4 y5 y6 y7) 2 8).1 (swi (f8 y0 y1 y2 y3 y4 y5 y6 y7) 2 8).2 w) := by
  go_enter Try.func70, Try.ntmps70
  go_wp2
  go_loopw [5, 9] (fun s i wr => ∃ k r t : Nat, ∃ z : Int, k ≤ 8 ∧ z = k ∧ i = .int .i64 z ∧ s = .complex .f32 r t ∧ Hid (FV r (swi (f8 y0 y1 y2 y3 y4 y5 y6 y7) 2 k).1 ∧ FV t (swi (f8 y0 y1 y2 y3 y4 y5 y6 y7) 2 k).2) ∧ Below w.heap.size w wr) (fun _ i _ => 8 - (intOf i).toNat)
  case atStart => exact ⟨0, 0, 0, 0, by omega, rfl, rfl, rfl, Lib.hid ⟨FV_zero, FV_zero⟩, by (repeat (first | with_reducible exact Below.refl _ _ | with_reducible refine bset ?_ (by first | (simp; done) | (simp; omega) | omega) _ | with_reducible refine balloc ?_ _ | with_reducible refine bdrewN ?_ _ | with_reducible refine bdrew ?_ | with_reducible refine bstep ?_ (by assumption)))⟩
  case round =>
    obtain ⟨k, r, t, z, hk, hz, rfl, rfl, HF, hb⟩ := hrel
    have hk8 : k = 0 ∨ k = 1 ∨ k = 2 ∨ k = 3 ∨ k = 4 ∨ k = 5 ∨ k = 6 ∨ k = 7 ∨ k = 8 := by omega
    rcases hk8 with rfl | rfl | rfl | rfl | rfl | rfl | rfl | rfl | rfl
    · obtain rfl : z = 0 := by simpa using hz
      clear hz hk
      have ix : ∀ w, (Instr.index 36 (.agg #[.float .f32 y0, .float .f32 y1, .float .f32 y2, .float .f32 y3, .float .f32 y4, .float .f32 y5, .float .f32 y6, .float .f32 y7]) (.int .i64 0)).run Try.prog w = .ok (.float .f32 y0) w := fun _ => by kernel_rfl
      have HS := Lib.hid (show swi (f8 y0 y1 y2 y3 y4 y5 y6 y7) 2 (0 + 1) = (fadd (swi (f8 y0 y1 y2 y3 y4 y5 y6 y7) 2 0).1 (fmul (placeR 0) (cn y0)), fadd (swi (f8 y0 y1 y2 y3 y4 y5 y6 y7) 2 0).2 (fmul (placeI 0) (cn y0))) from rfl)
      go_wp2_with (first | (go_at_call 62; refine (place_any 0 (by decide) (by decide) _).mono ?_; rintro e w1 ⟨rfl, hb1⟩) | (go_at_call 99; refine (partOf_any _ _ _ _).mono ?_; rintro e w2 ⟨r2, t2, rfl, hr2, ht2, hb2⟩) | (go_at_call 98; refine (plusPoint_any _ _ _ _ _).mono ?_; rintro e w3 ⟨r3, t3, rfl, hr3, ht3, hb3⟩))
      go_roundw
      case rel =>
        rw [HF.out.1.1, hr2.1, (cn_place _).1] at hr3
        rw [HF.out.2.1, ht2.1, (cn_place _).2] at ht3
        exact ⟨0 + 1, r3, t3, 0 + 1, by omega, by simp, rfl, rfl, Lib.hid (by rw [HS.out]; exact ⟨hr3, ht3⟩), bstep (bstep (bstep hb hb1) hb2) hb3⟩
      case measure => simp [intOf]
    · obtain rfl : z = 1 := by simpa using hz
      clear hz hk
      have ix : ∀ w, (Instr.index 36 (.agg #[.float .f32 y0, .float .f32 y1, .float .f32 y2, .float .f32 y3, .float .f32 y4, .float .f32 y5, .float .f32 y6, .float .f32 y7]) (.int .i64 1)).run Try.prog w = .ok (.float .f32 y1) w := fun _ => by kernel_rfl
      have HS := Lib.hid (show swi (f8 y0 y1 y2 y3 y4 y5 y6 y7) 2 (1 + 1) = (fadd (swi (f8 y0 y1 y2 y3 y4 y5 y6 y7) 2 1).1 (fmul (placeR 6) (cn y1)), fadd (swi (f8 y0 y1 y2 y3 y4 y5 y6 y7) 2 1).2 (fmul (placeI 6) (cn y1))) from rfl)
      go_wp2_with (first | (go_at_call 62; refine (place_any 6 (by decide) (by decide) _).mono ?_; rintro e w1 ⟨rfl, hb1⟩) | (go_at_call 99; refine (partOf_any _ _ _ _).mono ?_; rintro e w2 ⟨r2, t2, rfl, hr2, ht2, hb2⟩) | (go_at_call 98; refine (plusPoint_any _ _ _ _ _).mono ?_; rintro e w3 ⟨r3, t3, rfl, hr3, ht3, hb3⟩))
      go_roundw
      case rel =>
        rw [HF.out.1.1, hr2.1, (cn_place _).1] at hr3
        rw [HF.out.2.1, ht2.1, (cn_place _).2] at ht3
        exact ⟨1 + 1, r3, t3, 1 + 1, by omega, by simp, rfl, rfl, Lib.hid (by rw [HS.out]; exact ⟨hr3, ht3⟩), bstep (bstep (bstep hb hb1) hb2) hb3⟩
      case measure => simp [intOf]
    · obtain rfl : z = 2 := by simpa using hz
      clear hz hk
      have ix : ∀ w, (Instr.index 36 (.agg #[.float .f32 y0, .float .f32 y1, .float .f32 y2, .float .f32 y3, .float .f32 y4, .float .f32 y5, .float .f32 y6, .float .f32 y7]) (.int .i64 2)).run Try.prog w = .ok (.float .f32 y2) w := fun _ => by kernel_rfl
      have HS := Lib.hid (show swi (f8 y0 y1 y2 y3 y4 y5 y6 y7) 2 (2 + 1) = (fadd (swi (f8 y0 y1 y2 y3 y4 y5 y6 y7) 2 2).1 (fmul (placeR 4) (cn y2)), fadd (swi (f8 y0 y1 y2 y3 y4 y5 y6 y7) 2 2).2 (fmul (placeI 4) (cn y2))) from rfl)
      go_wp2_with (first | (go_at_call 62; refine (place_any 4 (by decide) (by decide) _).mono ?_; rintro e w1 ⟨rfl, hb1⟩) | (go_at_call 99; refine (partOf_any _ _ _ _).mono ?_; rintro e w2 ⟨r2, t2, rfl, hr2, ht2, hb2⟩) | (go_at_call 98; refine (plusPoint_any _ _ _ _ _).mono ?_; rintro e w3 ⟨r3, t3, rfl, hr3, ht3, hb3⟩))
      go_roundw
      case rel =>
        rw [HF.out.1.1, hr2.1, (cn_place _).1] at hr3
        rw [HF.out.2.1, ht2.1, (cn_place _).2] at ht3
        exact ⟨2 + 1, r3, t3, 2 + 1, by omega, by simp, rfl, rfl, Lib.hid (by rw [HS.out]; exact ⟨hr3, ht3⟩), bstep (bstep (bstep hb hb1) hb2) hb3⟩
      case measure => simp [intOf]
    · obtain rfl : z = 3 := by simpa using hz
      clear hz hk
      have ix : ∀ w, (Instr.index 36 (.agg #[.float .f32 y0, .float .f32 y1, .float .f32 y2, .float .f32 y3, .float .f32 y4, .float .f32 y5, .float .f32 y6, .float .f32 y7]) (.int .i64 3)).run Try.prog w = .ok (.float .f32 y3) w := fun _ => by kernel_rfl
      have HS := Lib.hid (show swi (f8 y0 y1 y2 y3 y4 y5 y6 y7) 2 (3 + 1) = (fadd (swi (f8 y0 y1 y2 y3 y4 y5 y6 y7) 2 3).1 (fmul (placeR 2) (cn y3)), fadd (swi (f8 y0 y1 y2 y3 y4 y5 y6 y7) 2 3).2 (fmul (placeI 2) (cn y3))) from rfl)
      go_wp2_with (first | (go_at_call 62; refine (place_any 2 (by decide) (by decide) _).mono ?_; rintro e w1 ⟨rfl, hb1⟩) | (go_at_call 99; refine (partOf_any _ _ _ _).mono ?_; rintro e w2 ⟨r2, t2, rfl, hr2, ht2, hb2⟩) | (go_at_call 98; refine (plusPoint_any _ _ _ _ _).mono ?_; rintro e w3 ⟨r3, t3, rfl, hr3, ht3, hb3⟩))
      go_roundw
      case rel =>
        rw [HF.out.1.1, hr2.1, (cn_place _).1] at hr3
        rw [HF.out.2.1, ht2.1, (cn_place _).2] at ht3
        exact ⟨3 + 1, r3, t3, 3 + 1, by omega, by simp, rfl, rfl, Lib.hid (by rw [HS.out]; exact ⟨hr3, ht3⟩), bstep (bstep (bstep hb hb1) hb2) hb3⟩
      case measure => simp [intOf]
    · obtain rfl : z = 4 := by simpa using hz
      clear hz hk
      have ix : ∀ w, (Instr.index 36 (.agg #[.float .f32 y0, .float .f32 y1, .float .f32 y2, .float .f32 y3, .float .f32 y4, .float .f32 y5, .float .f32 y6, .float .f32 y7]) (.int .i64 4)).run Try.prog w = .ok (.float .f32 y4) w := fun _ => by kernel_rfl
      have HS := Lib.hid (show swi (f8 y0 y1 y2 y3 y4 y5 y6 y7) 2 (4 + 1) = (fadd (swi (f8 y0 y1 y2 y3 y4 y5 y6 y7) 2 4).1 (fmul (placeR 0) (cn y4)), fadd (swi (f8 y0 y1 y2 y3 y4 y5 y6 y7) 2 4).2 (fmul (placeI 0) (cn y4))) from rfl)
      go_wp2_with (first | (go_at_call 62; refine (place_any 0 (by decide) (by decide) _).mono ?_; rintro e w1 ⟨rfl, hb1⟩) | (go_at_call 99; refine (partOf_any _ _ _ _).mono ?_; rintro e w2 ⟨r2, t2, rfl, hr2, ht2, hb2⟩) | (go_at_call 98; refine (plusPoint_any _ _ _ _ _).mono ?_; rintro e w3 ⟨r3, t3, rfl, hr3, ht3, hb3⟩))
      go_roundw
      case rel =>
        rw [HF.out.1.1, hr2.1, (cn_place _).1] at hr3
        rw [HF.out.2.1, ht2.1, (cn_place _).2] at ht3
        exact ⟨4 + 1, r3, t3, 4 + 1, by omega, by simp, rfl, rfl, Lib.hid (by rw [HS.out]; exact ⟨hr3, ht3⟩), bstep (bstep (bstep hb hb1) hb2) hb3⟩
      case measure => simp [intOf]
    · obtain rfl : z = 5 := by simpa using hz
      clear hz hk
      have ix : ∀ w, (Instr.index 36 (.agg #[.float .f32 y0, .float .f32 y1, .float .f32 y2, .float .f32 y3, .float .f32 y4, .float .f32 y5, .float .f32 y6, .float .f32 y7]) (.int .i64 5)).run Try.prog w = .ok (.float .f32 y5) w := fun _ => by kernel_rfl
      have HS := Lib.hid (show swi (f8 y0 y1 y2 y3 y4 y5 y6 y7) 2 (5 + 1) = (fadd (swi (f8 y0 y1 y2 y3 y4 y5 y6 y7) 2 5).1 (fmul (placeR 6) (cn y5)), fadd (swi (f8 y0 y1 y2 y3 y4 y5 y6 y7) 2 5).2 (fmul (placeI 6) (cn y5))) from rfl)
      go_wp2_with (first | (go_at_call 62; refine (place_any 6 (by decide) (by decide) _).mono ?_; rintro e w1 ⟨rfl, hb1⟩) | (go_at_call 99; refine (partOf_any _ _ _ _).mono ?_; rintro e w2 ⟨r2, t2, rfl, hr2, ht2, hb2⟩) | (go_at_call 98; refine (plusPoint_any _ _ _ _ _).mono ?_; rintro e w3 ⟨r3, t3, rfl, hr3, ht3, hb3⟩))
      go_roundw
      case rel =>
        rw [HF.out.1.1, hr2.1, (cn_place _).1] at hr3
        rw [HF.out.2.1, ht2.1, (cn_place _).2] at ht3
        exact ⟨5 + 1, r3, t3, 5 + 1, by omega, by simp, rfl, rfl, Lib.hid (by rw [HS.out]; exact ⟨hr3, ht3⟩), bstep (bstep (bstep hb hb1) hb2) hb3⟩
      case measure => simp [intOf]
    · obtain rfl : z = 6 := by simpa using hz
      clear hz hk
      have ix : ∀ w, (Instr.index 36 (.agg #[.float .f32 y0, .float .f32 y1, .float .f32 y2, .float .f32 y3, .float .f32 y4, .float .f32 y5, .float .f32 y6, .float .f32 y7]) (.int .i64 6)).run Try.prog w = .ok (.float .f32 y6) w := fun _ => by kernel_rfl
      have HS := Lib.hid (show swi (f8 y0 y1 y2 y3 y4 y5 y6 y7) 2 (6 + 1) = (fadd (swi (f8 y0 y1 y2 y3 y4 y5 y6 y7) 2 6).1 (fmul (placeR 4) (cn y6)), fadd (swi (f8 y0 y1 y2 y3 y4 y5 y6 y7) 2 6).2 (fmul (placeI 4) (cn y6))) from rfl)
      go_wp2_with (first | (go_at_call 62; refine (place_any 4 (by decide) (by decide) _).mono ?_; rintro e w1 ⟨rfl, hb1⟩) | (go_at_call 99; refine (partOf_any _ _ _ _).mono ?_; rintro e w2 ⟨r2, t2, rfl, hr2, ht2, hb2⟩) | (go_at_call 98; refine (plusPoint_any _ _ _ _ _).mono ?_; rintro e w3 ⟨r3, t3, rfl, hr3, ht3, hb3⟩))
      go_roundw
      case rel =>
        rw [HF.out.1.1, hr2.1, (cn_place _).1] at hr3
        rw [HF.out.2.1, ht2.1, (cn_place _).2] at ht3
        exact ⟨6 + 1, r3, t3, 6 + 1, by omega, by simp, rfl, rfl, Lib.hid (by rw [HS.out]; exact ⟨hr3, ht3⟩), bstep (bstep (bstep hb hb1) hb2) hb3⟩
      case measure => simp [intOf]
    · obtain rfl : z = 7 := by simpa using hz
      clear hz hk
      have ix : ∀ w, (Instr.index 36 (.agg #[.float .f32 y0, .float .f32 y1, .float .f32 y2, .float .f32 y3, .float .f32 y4, .float .f32 y5, .float .f32 y6, .float .f32 y7]) (.int .i64 7)).run Try.prog w = .ok (.float .f32 y7) w := fun _ => by kernel_rfl
      have HS := Lib.hid (show swi (f8 y0 y1 y2 y3 y4 y5 y6 y7) 2 (7 + 1) = (fadd (swi (f8 y0 y1 y2 y3 y4 y5 y6 y7) 2 7).1 (fmul (placeR 2) (cn y7)), fadd (swi (f8 y0 y1 y2 y3 y4 y5 y6 y7) 2 7).2 (fmul (placeI 2) (cn y7))) from rfl)
      go_wp2_with (first | (go_at_call 62; refine (place_any 2 (by decide) (by decide) _).mono ?_; rintro e w1 ⟨rfl, hb1⟩) | (go_at_call 99; refine (partOf_any _ _ _ _).mono ?_; rintro e w2 ⟨r2, t2, rfl, hr2, ht2, hb2⟩) | (go_at_call 98; refine (plusPoint_any _ _ _ _ _).mono ?_; rintro e w3 ⟨r3, t3, rfl, hr3, ht3, hb3⟩))
      go_roundw
      case rel =>
        rw [HF.out.1.1, hr2.1, (cn_place _).1] at hr3
        rw [HF.out.2.1, ht2.1, (cn_place _).2] at ht3
        exact ⟨7 + 1, r3, t3, 7 + 1, by omega, by simp, rfl, rfl, Lib.hid (by rw [HS.out]; exact ⟨hr3, ht3⟩), bstep (bstep (bstep hb hb1) hb2) hb3⟩
      case measure => simp [intOf]
    · obtain rfl : z = 8 := by simpa using hz
      clear hz hk
      have HR := HF.out
      go_wp2
      go_ret
      exact ⟨r, t, rfl, HR.1, HR.2, hb⟩

set_option maxHeartbeats 8000000 in
theorem swing_impl_3 (y0 y1 y2 y3 y4 y5 y6 y7 : Nat) (w : World) :
    Calls Try.prog 70 #[(.agg #[.float .f32 y0, .float .f32 y1, .float .f32 y2, .float .f32 y3, .float .f32 y4, .float .f32 y5, .float .f32 y6, .float .f32 y7]), .int .i64 3] w (CQ (swi (f8 y0 y1 y2 y3 y4 y5 y6 y7) 3 8).1 (swi (f8 y0 y1 y2 y3 y4 y5 y6 y7) 3 8).2 w) := by
  go_enter Try.func70, Try.ntmps70
  go_wp2
  go_loopw [5, 9] (fun s i wr => ∃ k r t : Nat, ∃ z : Int, k ≤ 8 ∧ z = k ∧ i = .int .i64 z ∧ s = .complex .f32 r t ∧ Hid (FV r (swi (f8 y0 y1 y2 y3 y4 y5 y6 y7) 3 k).1 ∧ FV t (swi (f8 y0 y1 y2 y3 y4 y5 y6 y7) 3 k).2) ∧ Below w.heap.size w wr) (fun _ i _ => 8 - (intOf i).toNat)
  case atStart => exact ⟨0, 0, 0, 0, by omega, rfl, rfl, rfl, Lib.hid ⟨FV_zero, FV_zero⟩, by (repeat (first | with_reducible exact Below.refl _ _ | with_reducible refine bset ?_ (by first | (simp; done) | (simp; omega) | omega) _ | with_reducible refine balloc ?_ _ | with_reducible refine bdrewN ?_ _ | with_reducible refine bdrew ?_ | with_reducible refine bstep ?_ (by assumption)))⟩
  case round =>
    obtain ⟨k, r, t, z, hk, hz, rfl, rfl, HF, hb⟩ := hrel
    have hk8 : k = 0 ∨ k = 1 ∨ k = 2 ∨ k = 3 ∨ k = 4 ∨ k = 5 ∨ k = 6 ∨ k = 7 ∨ k = 8 := by omega
    rcases hk8 with rfl | rfl | rfl | rfl | rfl | rfl | rfl | rfl | rfl
    · obtain rfl : z = 0 := by simpa using hz
      clear hz hk
      have ix : ∀ w, (Instr.index 36 (.agg #[.float .f32 y0, .float .f32 y1, .float .f32 y2, .float .f32 y3, .float .f32 y4, .float .f32 y5, .float .f32 y6, .float .f32 y7]) (.int .i64 0)).run Try.prog w = .ok (.float .f32 y0) w := fun _ => by kernel_rfl
      have HS := Lib.hid (show swi (f8 y0 y1 y2 y3 y4 y5 y6 y7) 3 (0 + 1) = (fadd (swi (f8 y0 y1 y2 y3 y4 y5 y6 y7) 3 0).1 (fmul (placeR 0) (cn y0)), fadd (swi (f8 y0 y1 y2 y3 y4 y5 y6 y7) 3 0).2 (fmul (placeI 0) (cn y0))) from rfl)
      go_wp2_with (first | (go_at_call 62; refine (place_any 0 (by decide) (by decide) _).mono ?_; rintro e w1 ⟨rfl, hb1⟩) | (go_at_call 99; refine (partOf_any _ _ _ _).mono ?_; rintro e w2 ⟨r2, t2, rfl, hr2, ht2, hb2⟩) | (go_at_call 98; refine (plusPoint_any _ _ _ _ _).mono ?_; rintro e w3 ⟨r3, t3, rfl, hr3, ht3, hb3⟩))
      go_roundw
      case rel =>
        rw [HF.out.1.1, hr2.1, (cn_place _).1] at hr3
        rw [HF.out.2.1, ht2.1, (cn_place _).2] at ht3
        exact ⟨0 + 1, r3, t3, 0 + 1, by omega, by simp, rfl, rfl, Lib.hid (by rw [HS.out]; exact ⟨hr3, ht3⟩), bstep (bstep (bstep hb hb1) hb2) hb3⟩
      case measure => simp [intOf]
    · obtain rfl : z = 1 := by simpa using hz
      clear hz hk
      have ix : ∀ w, (Instr.index 36 (.agg #[.float .f32 y0, .float .f32 y1, .float .f32 y2, .float .f32 y3, .float .f32 y4, .float .f32 y5, .float .f32 y6, .float .f32 y7]) (.int .i64 1)).run Try.prog w = .ok (.float .f32 y1) w := fun _ => by kernel_rfl
      have HS := Lib.hid (show swi (f8 y0 y1 y2 y3 y4 y5 y6 y7) 3 (1 + 1) = (fadd (swi (f8 y0 y1 y2 y3 y4 y5 y6 y7) 3 1).1 (fmul (placeR 5) (cn y1)), fadd (swi (f8 y0 y1 y2 y3 y4 y5 y6 y7) 3 1).2 (fmul (placeI 5) (cn y1))) from rfl)
      go_wp2_with (first | (go_at_call 62; refine (place_any 5 (by decide) (by decide) _).mono ?_; rintro e w1 ⟨rfl, hb1⟩) | (go_at_call 99; refine (partOf_any _ _ _ _).mono ?_; rintro e w2 ⟨r2, t2, rfl, hr2, ht2, hb2⟩) | (go_at_call 98; refine (plusPoint_any _ _ _ _ _).mono ?_; rintro e w3 ⟨r3, t3, rfl, hr3, ht3, hb3⟩))
      go_roundw
      case rel =>
        rw [HF.out.1.1, hr2.1, (cn_place _).1] at hr3
        rw [HF.out.2.1, ht2.1, (cn_place _).2] at ht3
        exact ⟨1 + 1, r3, t3, 1 + 1, by omega, by simp, rfl, rfl, Lib.hid (by rw [HS.out]; exact ⟨hr3, ht3⟩), bstep (bstep (bstep hb hb1) hb2) hb3⟩
      case measure => simp [intOf]
    · obtain rfl : z = 2 := by simpa using hz
      clear hz hk
      have ix : ∀ w, (Instr.index 36 (.agg #[.float .f32 y0, .float .f32 y1, .float .f32 y2, .float .f32 y3, .float .f32 y4, .float .f32 y5, .float .f32 y6, .float .f32 y7]) (.int .i64 2)).run Try.prog w = .ok (.float .f32 y2) w := fun _ => by kernel_rfl
      have HS := Lib.hid (show swi (f8 y0 y1 y2 y3 y4 y5 y6 y7) 3 (2 + 1) = (fadd (swi (f8 y0 y1 y2 y3 y4 y5 y6 y7) 3 2).1 (fmul (placeR 2) (cn y2)), fadd (swi (f8 y0 y1 y2 y3 y4 y5 y6 y7) 3 2).2 (fmul (placeI 2) (cn y2))) from rfl)
      go_wp2_with (first | (go_at_call 62; refine (place_any 2 (by decide) (by decide) _).mono ?_; rintro e w1 ⟨rfl, hb1⟩) | (go_at_call 99; refine (partOf_any _ _ _ _).mono ?_; rintro e w2 ⟨r2, t2, rfl, hr2, ht2, hb2⟩) | (go_at_call 98; refine (plusPoint_any _ _ _ _ _).mono ?_; rintro e w3 ⟨r3, t3, rfl, hr3, ht3, hb3⟩))
      go_roundw
      case rel =>
        rw [HF.out.1.1, hr2.1, (cn_place _).1] at hr3
        rw [HF.out.2.1, ht2.1, (cn_place _).2] at ht3
        exact ⟨2 + 1, r3, t3, 2 + 1, by omega, by simp, rfl, rfl, Lib.hid (by rw [HS.out]; exact ⟨hr3, ht3⟩), bstep (bstep (bstep hb hb1) hb2) hb3⟩
      case measure => simp [intOf]
    · obtain rfl : z = 3 := by simpa using hz
      clear hz hk
      have ix : ∀ w, (Instr.index 36 (.agg #[.float .f32 y0, .float .f32 y1, .float .f32 y2, .float .f32 y3, .float .f32 y4, .float .f32 y5, .float .f32 y6, .float .f32 y7]) (.int .i64 3)).run Try.prog w = .ok (.float .f32 y3) w := fun _ => by kernel_rfl
      have HS := Lib.hid (show swi (f8 y0 y1 y2 y3 y4 y5 y6 y7) 3 (3 + 1) = (fadd (swi (f8 y0 y1 y2 y3 y4 y5 y6 y7) 3 3).1 (fmul (placeR 7) (cn y3)), fadd (swi (f8 y0 y1 y2 y3 y4 y5 y6 y7) 3 3).2 (fmul (placeI 7) (cn y3))) from rfl)
      go_wp2_with (first | (go_at_call 62; refine (place_any 7 (by decide) (by decide) _).mono ?_; rintro e w1 ⟨rfl, hb1⟩) | (go_at_call 99; refine (partOf_any _ _ _ _).mono ?_; rintro e w2 ⟨r2, t2, rfl, hr2, ht2, hb2⟩) | (go_at_call 98; refine (plusPoint_any _ _ _ _ _).mono ?_; rintro e w3 ⟨r3, t3, rfl, hr3, ht3, hb3⟩))
      go_roundw
      case rel =>
        rw [HF.out.1.1, hr2.1, (cn_place _).1] at hr3
        rw [HF.out.2.1, ht2.1, (cn_place _).2] at ht3
        exact ⟨3 + 1, r3, t3, 3 + 1, by omega, by simp, rfl, rfl, Lib.hid (by rw [HS.out]; exact ⟨hr3, ht3⟩), bstep (bstep (bstep hb hb1) hb2) hb3⟩
      case measure => simp [intOf]
    · obtain rfl : z = 4 := by simpa using hz
      clear hz hk
      have ix : ∀ w, (Instr.index 36 (.agg #[.float .f32 y0, .float .f32 y1, .float .f32 y2, .float .f32 y3, .float .f32 y4, .float .f32 y5, .float .f32 y6, .float .f32 y7]) (.int .i64 4)).run Try.prog w = .ok (.float .f32 y4) w := fun _ => by kernel_rfl
      have HS := Lib.hid (show swi (f8 y0 y1 y2 y3 y4 y5 y6 y7) 3 (4 + 1) = (fadd (swi (f8 y0 y1 y2 y3 y4 y5 y6 y7) 3 4).1 (fmul (placeR 4) (cn y4)), fadd (swi (f8 y0 y1 y2 y3 y4 y5 y6 y7) 3 4).2 (fmul (placeI 4) (cn y4))) from rfl)
      go_wp2_with (first | (go_at_call 62; refine (place_any 4 (by decide) (by decide) _).mono ?_; rintro e w1 ⟨rfl, hb1⟩) | (go_at_call 99; refine (partOf_any _ _ _ _).mono ?_; rintro e w2 ⟨r2, t2, rfl, hr2, ht2, hb2⟩) | (go_at_call 98; refine (plusPoint_any _ _ _ _ _).mono ?_; rintro e w3 ⟨r3, t3, rfl, hr3, ht3, hb3⟩))
      go_roundw
      case rel =>
        rw [HF.out.1.1, hr2.1, (cn_place _).1] at hr3
        rw [HF.out.2.1, ht2.1, (cn_place _).2] at ht3
        exact ⟨4 + 1, r3, t3, 4 + 1, by omega, by simp, rfl, rfl, Lib.hid (by rw [HS.out]; exact ⟨hr3, ht3⟩), bstep (bstep (bstep hb hb1) hb2) hb3⟩
      case measure => simp [intOf]
    · obtain rfl : z = 5 := by simpa using hz
      clear hz hk
      have ix : ∀ w, (Instr.index 36 (.agg #[.float .f32 y0, .float .f32 y1, .float .f32 y2, .float .f32 y3, .float .f32 y4, .float .f32 y5, .float .f32 y6, .float .f32 y7]) (.int .i64 5)).run Try.prog w = .ok (.float .f32 y5) w := fun _ => by kernel_rfl
      have HS := Lib.hid (show swi (f8 y0 y1 y2 y3 y4 y5 y6 y7) 3 (5 + 1) = (fadd (swi (f8 y0 y1 y2 y3 y4 y5 y6 y7) 3 5).1 (fmul (placeR 1) (cn y5)), fadd (swi (f8 y0 y1 y2 y3 y4 y5 y6 y7) 3 5).2 (fmul (placeI 1) (cn y5))) from rfl)
      go_wp2_with (first | (go_at_call 62; refine (place_any 1 (by decide) (by decide) _).mono ?_; rintro e w1 ⟨rfl, hb1⟩) | (go_at_call 99; refine (partOf_any _ _ _ _).mono ?_; rintro e w2 ⟨r2, t2, rfl, hr2, ht2, hb2⟩) | (go_at_call 98; refine (plusPoint_any _ _ _ _ _).mono ?_; rintro e w3 ⟨r3, t3, rfl, hr3, ht3, hb3⟩))
      go_roundw
      case rel =>
        rw [HF.out.1.1, hr2.1, (cn_place _).1] at hr3
        rw [HF.out.2.1, ht2.1, (cn_place _).2] at ht3
        exact ⟨5 + 1, r3, t3, 5 + 1, by omega, by simp, rfl, rfl, Lib.hid (by rw [HS.out]; exact ⟨hr3, ht3⟩), bstep (bstep (bstep hb hb1) hb2) hb3⟩
      case measure => simp [intOf]
    · obtain rfl : z = 6 := by simpa using hz
      clear hz hk
      have ix : ∀ w, (Instr.index 36 (.agg #[.float .f32 y0, .float .f32 y1, .float .f32 y2, .float .f32 y3, .float .f32 y4, .float .f32 y5, .float .f32 y6, .float .f32 y7]) (.int .i64 6)).run Try.prog w = .ok (.float .f32 y6) w := fun _ => by kernel_rfl
      have HS := Lib.hid (show swi (f8 y0 y1 y2 y3 y4 y5 y6 y7) 3 (6 + 1) = (fadd (swi (f8 y0 y1 y2 y3 y4 y5 y6 y7) 3 6).1 (fmul (placeR 6) (cn y6)), fadd (swi (f8 y0 y1 y2 y3 y4 y5 y6 y7) 3 6).2 (fmul (placeI 6) (cn y6))) from rfl)
      go_wp2_with (first | (go_at_call 62; refine (place_any 6 (by decide) (by decide) _).mono ?_; rintro e w1 ⟨rfl, hb1⟩) | (go_at_call 99; refine (partOf_any _ _ _ _).mono ?_; rintro e w2 ⟨r2, t2, rfl, hr2, ht2, hb2⟩) | (go_at_call 98; refine (plusPoint_any _ _ _ _ _).mono ?_; rintro e w3 ⟨r3, t3, rfl, hr3, ht3, hb3⟩))
      go_roundw
      case rel =>
        rw [HF.out.1.1, hr2.1, (cn_place _).1] at hr3
        rw [HF.out.2.1, ht2.1, (cn_place _).2] at ht3
        exact ⟨6 + 1, r3, t3, 6 + 1, by omega, by simp, rfl, rfl, Lib.hid (by rw [HS.out]; exact ⟨hr3, ht3⟩), bstep (bstep (bstep hb hb1) hb2) hb3⟩
      case measure => simp [intOf]
    · obtain rfl : z = 7 := by simpa using hz
      clear hz hk
      have ix : ∀ w, (Instr.index 36 (.agg #[.float .f32 y0, .float .f32 y1, .float .f32 y2, .float .f32 y3, .float .f32 y4, .float .f32 y5, .float .f32 y6, .float .f32 y7]) (.int .i64 7)).run Try.prog w = .ok (.float .f32 y7) w := fun _ => by kernel_rfl
      have HS := Lib.hid (show swi (f8 y0 y1 y2 y3 y4 y5 y6 y7) 3 (7 + 1) = (fadd (swi (f8 y0 y1 y2 y3 y4 y5 y6 y7) 3 7).1 (fmul (placeR 3) (cn y7)), fadd (swi (f8 y0 y1 y2 y3 y4 y5 y6 y7) 3 7).2 (fmul (placeI 3) (cn y7))) from rfl)
      go_wp2_with (first | (go_at_call 62; refine (place_any 3 (by decide) (by decide) _).mono ?_; rintro e w1 ⟨rfl, hb1⟩) | (go_at_call 99; refine (partOf_any _ _ _ _).mono ?_; rintro e w2 ⟨r2, t2, rfl, hr2, ht2, hb2⟩) | (go_at_call 98; refine (plusPoint_any _ _ _ _ _).mono ?_; rintro e w3 ⟨r3, t3, rfl, hr3, ht3, hb3⟩))
      go_roundw
      case rel =>
        rw [HF.out.1.1, hr2.1, (cn_place _).1] at hr3
        rw [HF.out.2.1, ht2.1, (cn_place _).2] at ht3
        exact ⟨7 + 1, r3, t3, 7 + 1, by omega, by simp, rfl, rfl, Lib.hid (by rw [HS.out]; exact ⟨hr3, ht3⟩), bstep (bstep (bstep hb hb1) hb2) hb3⟩
      case measure => simp [intOf]
    · obtain rfl : z = 8 := by simpa using hz
      clear hz hk
      have HR := HF.out
      go_wp2
      go_ret
      exact ⟨r, t, rfl, HR.1, HR.2, hb⟩

set_option maxHeartbeats 8000000 in
theorem swing_impl_4 (y0 y1 y2 y3 y4 y5 y6 y7 : Nat) (w : World) :
    Calls Try.prog 70 #[(.agg #[.float .f32 y0, .float .f32 y1, .float .f32 y2, .float .f32 y3, .float .f32 y4, .float .f32 y5, .float .f32 y6, .float .f32 y7]), .int .i64 4] w (CQ (swi (f8 y0 y1 y2 y3 y4 y5 y6 y7) 4 8).1 (swi (f8 y0 y1 y2 y3 y4 y5 y6 y7) 4 8).2 w) := by
  go_enter Try.func70, Try.ntmps70
  go_wp2
  go_loopw [5, 9] (fun s i wr => ∃ k r t : Nat, ∃ z : Int, k ≤ 8 ∧ z = k ∧ i = .int .i64 z ∧ s = .complex .f32 r t ∧ Hid (FV r (swi (f8 y0 y1 y2 y3 y4 y5 y6 y7) 4 k).1 ∧ FV t (swi (f8 y0 y1 y2 y3 y4 y5 y6 y7) 4 k).2) ∧ Below w.heap.size w wr) (fun _ i _ => 8 - (intOf i).toNat)
  case atStart => exact ⟨0, 0, 0, 0, by omega, rfl, rfl, rfl, Lib.hid ⟨FV_zero, FV_zero⟩, by (repeat (first | with_reducible exact Below.refl _ _ | with_reducible refine bset ?_ (by first | (simp; done) | (simp; omega) | omega) _ | with_reducible refine balloc ?_ _ | with_reducible refine bdrewN ?_ _ | with_reducible refine bdrew ?_ | with_reducible refine bstep ?_ (by assumption)))⟩
  case round =>
    obtain ⟨k, r, t, z, hk, hz, rfl, rfl, HF, hb⟩ := hrel
    have hk8 : k = 0 ∨ k = 1 ∨ k = 2 ∨ k = 3 ∨ k = 4 ∨ k = 5 ∨ k = 6 ∨ k = 7 ∨ k = 8 := by omega
    rcases hk8 with rfl | rfl | rfl | rfl | rfl | rfl | rfl | rfl | rfl
    · obtain rfl : z = 0 := by simpa using hz
      clear hz hk
      have ix : ∀ w, (Instr.index 36 (.agg #[.float .f32 y0, .float .f32 y1, .float .f32 y2, .float .f32 y3, .float .f32 y4, .float .f32 y5, .float .f32 y6, .float .f32 y7]) (.int .i64 0)).run Try.prog w = .ok (.float .f32 y0) w := fun _ => by kernel_rfl
      have HS := Lib.hid (show swi (f8 y0 y1 y2 y3 y4 y5 y6 y7) 4 (0 + 1) = (fadd (swi (f8 y0 y1 y2 y3 y4 y5 y6 y7) 4 0).1 (fmul (placeR 0) (cn y0)), fadd (swi (f8 y0 y1 y2 y3 y4 y5 y6 y7) 4 0).2 (fmul (placeI 0) (cn y0))) from rfl)
      go_wp2_with (first | (go_at_call 62; refine (place_any 0 (by decide) (by decide) _).mono ?_; rintro e w1 ⟨rfl, hb1⟩) | (go_at_call 99; refine (partOf_any _ _ _ _).mono ?_; rintro e w2 ⟨r2, t2, rfl, hr2, ht2, hb2⟩) | (go_at_call 98; refine (plusPoint_any _ _ _ _ _).mono ?_; rintro e w3 ⟨r3, t3, rfl, hr3, ht3, hb3⟩))
      go_roundw
      case rel =>
        rw [HF.out.1.1, hr2.1, (cn_place _).1] at hr3
        rw [HF.out.2.1, ht2.1, (cn_place _).2] at ht3
        exact ⟨0 + 1, r3, t3, 0 + 1, by omega, by simp, rfl, rfl, Lib.hid (by rw [HS.out]; exact ⟨hr3, ht3⟩), bstep (bstep (bstep hb hb1) hb2) hb3⟩
      case measure => simp [intOf]
    · obtain rfl : z = 1 := by simpa using hz
      clear hz hk
      have ix : ∀ w, (Instr.index 36 (.agg #[.float .f32 y0, .float .f32 y1, .float .f32 y2, .float .f32 y3, .float .f32 y4, .float .f32 y5, .float .f32 y6, .float .f32 y7]) (.int .i64 1)).run Try.prog w = .ok (.float .f32 y1) w := fun _ => by kernel_rfl
      have HS := Lib.hid (show swi (f8 y0 y1 y2 y3 y4 y5 y6 y7) 4 (1 + 1) = (fadd (swi (f8 y0 y1 y2 y3 y4 y5 y6 y7) 4 1).1 (fmul (placeR 4) (cn y1)), fadd (swi (f8 y0 y1 y2 y3 y4 y5 y6 y7) 4 1).2 (fmul (placeI 4) (cn y1))) from rfl)
      go_wp2_with (first | (go_at_call 62; refine (place_any 4 (by decide) (by decide) _).mono ?_; rintro e w1 ⟨rfl, hb1⟩) | (go_at_call 99; refine (partOf_any _ _ _ _).mono ?_; rintro e w2 ⟨r2, t2, rfl, hr2, ht2, hb2⟩) | (go_at_call 98; refine (plusPoint_any _ _ _ _ _).mono ?_; rintro e w3 ⟨r3, t3, rfl, hr3, ht3, hb3⟩))
      go_roundw
      case rel =>
        rw [HF.out.1.1, hr2.1, (cn_place _).1] at hr3
        rw [HF.out.2.1, ht2.1, (cn_place _).2] at ht3
        exact ⟨1 + 1, r3, t3, 1 + 1, by omega, by simp, rfl, rfl, Lib.hid (by rw [HS.out]; exact ⟨hr3, ht3⟩), bstep (bstep (bstep hb hb1) hb2) hb3⟩
      case measure => simp [intOf]
    · obtain rfl : z = 2 := by simpa using hz
      clear hz hk
      have ix : ∀ w, (Instr.index 36 (.agg #[.float .f32 y0, .float .f32 y1, .float .f32 y2, .float .f32 y3, .float .f32 y4, .float .f32 y5, .float .f32 y6, .float .f32 y7]) (.int .i64 2)).run Try.prog w = .ok (.float .f32 y2) w := fun _ => by kernel_rfl
      have HS := Lib.hid (show swi (f8 y0 y1 y2 y3 y4 y5 y6 y7) 4 (2 + 1) = (fadd (swi (f8 y0 y1 y2 y3 y4 y5 y6 y7) 4 2).1 (fmul (placeR 0) (cn y2)), fadd (swi (f8 y0 y1 y2 y3 y4 y5 y6 y7) 4 2).2 (fmul (placeI 0) (cn y2))) from rfl)
      go_wp2_with (first | (go_at_call 62; refine (place_any 0 (by decide) (by decide) _).mono ?_; rintro e w1 ⟨rfl, hb1⟩) | (go_at_call 99; refine (partOf_any _ _ _ _).mono ?_; rintro e w2 ⟨r2, t2, rfl, hr2, ht2, hb2⟩) | (go_at_call 98; refine (plusPoint_any _ _ _ _ _).mono ?_; rintro e w3 ⟨r3, t3, rfl, hr3, ht3, hb3⟩))
      go_roundw
      case rel =>
        rw [HF.out.1.1, hr2.1, (cn_place _).1] at hr3
        rw [HF.out.2.1, ht2.1, (cn_place _).2] at ht3
        exact ⟨2 + 1, r3, t3, 2 + 1, by omega, by simp, rfl, rfl, Lib.hid (by rw [HS.out]; exact ⟨hr3, ht3⟩), bstep (bstep (bstep hb hb1) hb2) hb3⟩
      case measure => simp [intOf]
    · obtain rfl : z = 3 := by simpa using hz
      clear hz hk
      have ix : ∀ w, (Instr.index 36 (.agg #[.float .f32 y0, .float .f32 y1, .float .f32 y2, .float .f32 y3, .float .f32 y4, .float .f32 y5, .float .f32 y6, .float .f32 y7]) (.int .i64 3)).run Try.prog w = .ok (.float .f32 y3) w := fun _ => by kernel_rfl
      have HS := Lib.hid (show swi (f8 y0 y1 y2 y3 y4 y5 y6 y7) 4 (3 + 1) = (fadd (swi (f8 y0 y1 y2 y3 y4 y5 y6 y7) 4 3).1 (fmul (placeR 4) (cn y3)), fadd (swi (f8 y0 y1 y2 y3 y4 y5 y6 y7) 4 3).2 (fmul (placeI 4) (cn y3))) from rfl)
      go_wp2_with (first | (go_at_call 62; refine (place_any 4 (by decide) (by decide) _).mono ?_; rintro e w1 ⟨rfl, hb1⟩) | (go_at_call 99; refine (partOf_any _ _ _ _).mono ?_; rintro e w2 ⟨r2, t2, rfl, hr2, ht2, hb2⟩) | (go_at_call 98; refine (plusPoint_any _ _ _ _ _).mono ?_; rintro e w3 ⟨r3, t3, rfl, hr3, ht3, hb3⟩))
      go_roundw
      case rel =>
        rw [HF.out.1.1, hr2.1, (cn_place _).1] at hr3
        rw [HF.out.2.1, ht2.1, (cn_place _).2] at ht3
        exact ⟨3 + 1, r3, t3, 3 + 1, by omega, by simp, rfl, rfl, Lib.hid (by rw [HS.out]; exact ⟨hr3, ht3⟩), bstep (bstep (bstep hb hb1) hb2) hb3⟩
      case measure => simp [intOf]
    · obtain rfl : z = 4 := by simpa using hz
      clear hz hk
      have ix : ∀ w, (Instr.index 36 (.agg #[.float .f32 y0, .float .f32 y1, .float .f32 y2, .float .f32 y3, .float .f32 y4, .float .f32 y5, .float .f32 y6, .float .f32 y7]) (.int .i64 4)).run Try.prog w = .ok (.float .f32 y4) w := fun _ => by kernel_rfl
      have HS := Lib.hid (show swi (f8 y0 y1 y2 y3 y4 y5 y6 y7) 4 (4 + 1) = (fadd (swi (f8 y0 y1 y2 y3 y4 y5 y6 y7) 4 4).1 (fmul (placeR 0) (cn y4)), fadd (swi (f8 y0 y1 y2 y3 y4 y5 y6 y7) 4 4).2 (fmul (placeI 0) (cn y4))) from rfl)
      go_wp2_with (first | (go_at_call 62; refine (place_any 0 (by decide) (by decide) _).mono ?_; rintro e w1 ⟨rfl, hb1⟩) | (go_at_call 99; refine (partOf_any _ _ _ _).mono ?_; rintro e w2 ⟨r2, t2, rfl, hr2, ht2, hb2⟩) | (go_at_call 98; refine (plusPoint_any _ _ _ _ _).mono ?_; rintro e w3 ⟨r3, t3, rfl, hr3, ht3, hb3⟩))
      go_roundw
      case rel =>
        rw [HF.out.1.1, hr2.1, (cn_place _).1] at hr3
        rw [HF.out.2.1, ht2.1, (cn_place _).2] at ht3
        exact ⟨4 + 1, r3, t3, 4 + 1, by omega, by simp, rfl, rfl, Lib.hid (by rw [HS.out]; exact ⟨hr3, ht3⟩), bstep (bstep (bstep hb hb1) hb2) hb3⟩
      case measure => simp [intOf]
    · obtain rfl : z = 5 := by simpa using hz
      clear hz hk
      have ix : ∀ w, (Instr.index 36 (.agg #[.float .f32 y0, .float .f32 y1, .float .f32 y2, .float .f32 y3, .float .f32 y4, .float .f32 y5, .float .f32 y6, .float .f32 y7]) (.int .i64 5)).run Try.prog w = .ok (.float .f32 y5) w := fun _ => by kernel_rfl
      have HS := Lib.hid (show swi (f8 y0 y1 y2 y3 y4 y5 y6 y7) 4 (5 + 1) = (fadd (swi (f8 y0 y1 y2 y3 y4 y5 y6 y7) 4 5).1 (fmul (placeR 4) (cn y5)), fadd (swi (f8 y0 y1 y2 y3 y4 y5 y6 y7) 4 5).2 (fmul (placeI 4) (cn y5))) from rfl)
      go_wp2_with (first | (go_at_call 62; refine (place_any 4 (by decide) (by decide) _).mono ?_; rintro e w1 ⟨rfl, hb1⟩) | (go_at_call 99; refine (partOf_any _ _ _ _).mono ?_; rintro e w2 ⟨r2, t2, rfl, hr2, ht2, hb2⟩) | (go_at_call 98; refine (plusPoint_any _ _ _ _ _).mono ?_; rintro e w3 ⟨r3, t3, rfl, hr3, ht3, hb3⟩))
      go_roundw
      case rel =>
        rw [HF.out.1.1, hr2.1, (cn_place _).1] at hr3
        rw [HF.out.2.1, ht2.1, (cn_place _).2] at ht3
        exact ⟨5 + 1, r3, t3, 5 + 1, by omega, by simp, rfl, rfl, Lib.hid (by rw [HS.out]; exact ⟨hr3, ht3⟩), bstep (bstep (bstep hb hb1) hb2) hb3⟩
      case measure => simp [intOf]
    · obtain rfl : z = 6 := by simpa using hz
      clear hz hk
      have ix : ∀ w, (Instr.index 36 (.agg #[.float .f32 y0, .float .f32 y1, .float .f32 y2, .float .f32 y3, .float .f32 y4, .float .f32 y5, .float .f32 y6, .float .f32 y7]) (.int .i64 6)).run Try.prog w = .ok (.float .f32 y6) w := fun _ => by kernel_rfl
      have HS := Lib.hid (show swi (f8 y0 y1 y2 y3 y4 y5 y6 y7) 4 (6 + 1) = (fadd (swi (f8 y0 y1 y2 y3 y4 y5 y6 y7) 4 6).1 (fmul (placeR 0) (cn y6)), fadd (swi (f8 y0 y1 y2 y3 y4 y5 y6 y7) 4 6).2 (fmul (placeI 0) (cn y6))) from rfl)
      go_wp2_with (first | (go_at_call 62; refine (place_any 0 (by decide) (by decide) _).mono ?_; rintro e w1 ⟨rfl, hb1⟩) | (go_at_call 99; refine (partOf_any _ _ _ _).mono ?_; rintro e w2 ⟨r2, t2, rfl, hr2, ht2, hb2⟩) | (go_at_call 98; refine (plusPoint_any _ _ _ _ _).mono ?_; rintro e w3 ⟨r3, t3, rfl, hr3, ht3, hb3⟩))
      go_roundw
      case rel =>
        rw [HF.out.1.1, hr2.1, (cn_place _).1] at hr3
        rw [HF.out.2.1, ht2.1, (cn_place _).2] at ht3
        exact ⟨6 + 1, r3, t3, 6 + 1, by omega, by simp, rfl, rfl, Lib.hid (by rw [HS.out]; exact ⟨hr3, ht3⟩), bstep (bstep (bstep hb hb1) hb2) hb3⟩
      case measure => simp [intOf]
    · obtain rfl : z = 7 := by simpa using hz
      clear hz hk
      have ix : ∀ w, (Instr.index 36 (.agg #[.float .f32 y0, .float .f32 y1, .float .f32 y2, .float .f32 y3, .float .f32 y4, .float .f32 y5, .float .f32 y6, .float .f32 y7]) (.int .i64 7)).run Try.prog w = .ok (.float .f32 y7) w := fun _ => by kernel_rfl
      have HS := Lib.hid (show swi (f8 y0 y1 y2 y3 y4 y5 y6 y7) 4 (7 + 1) = (fadd (swi (f8 y0 y1 y2 y3 y4 y5 y6 y7) 4 7).1 (fmul (placeR 4) (cn y7)), fadd (swi (f8 y0 y1 y2 y3 y4 y5 y6 y7) 4 7).2 (fmul (placeI 4) (cn y7))) from rfl)
      go_wp2_with (first | (go_at_call 62; refine (place_any 4 (by decide) (by decide) _).mono ?_; rintro e w1 ⟨rfl, hb1⟩) | (go_at_call 99; refine (partOf_any _ _ _ _).mono ?_; rintro e w2 ⟨r2, t2, rfl, hr2, ht2, hb2⟩) | (go_at_call 98; refine (plusPoint_any _ _ _ _ _).mono ?_; rintro e w3 ⟨r3, t3, rfl, hr3, ht3, hb3⟩))
      go_roundw
      case rel =>
        rw [HF.out.1.1, hr2.1, (cn_place _).1] at hr3
        rw [HF.out.2.1, ht2.1, (cn_place _).2] at ht3
        exact ⟨7 + 1, r3, t3, 7 + 1, by omega, by simp, rfl, rfl, Lib.hid (by rw [HS.out]; exact ⟨hr3, ht3⟩), bstep (bstep (bstep hb hb1) hb2) hb3⟩
      case measure => simp [intOf]
    · obtain rfl : z = 8 := by simpa using hz
      clear hz hk
      have HR := HF.out
      go_wp2
      go_ret
      exact ⟨r, t, rfl, HR.1, HR.2, hb⟩
end Go.Proofs.Ytiipnbccfbielaa
