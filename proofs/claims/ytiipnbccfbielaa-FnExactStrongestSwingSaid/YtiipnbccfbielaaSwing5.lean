/- The strongest swing: both sides. -/
import Derived.Test.YtiipnbccfbielaaSwing2
import Derived.Test.YtiipnbccfbielaaSwing3
import Derived.Test.YtiipnbccfbielaaSwing4
namespace Go.Proofs.Ytiipnbccfbielaa
open Go.RowKit Ieee
open Go.Proofs.YtiipnbccfbielaaW.PrintWords
set_option maxRecDepth 100000
attribute [local irreducible] wpRel

def sqN (f : Nat → Nat) (n : Nat) : Nat := sqV (swi f n 8).1 (swi f n 8).2
/-- The strongest of the orders 1 to k + 1. -/
def stF (f : Nat → Nat) : Nat → Int × Nat
  | 0 => (1, sqN f 1)
  | k + 1 => if flt (stF f k).2 (sqN f (k + 2)) = true then (((k + 2 : Nat) : Int), sqN f (k + 2)) else stF f k
theorem stF_take {f : Nat → Nat} {k : Nat} (h : flt (stF f k).2 (sqN f (k + 2)) = true) : stF f (k + 1) = (((k + 2 : Nat) : Int), sqN f (k + 2)) := by
  rw [stF, if_pos h]
theorem stF_leave {f : Nat → Nat} {k : Nat} (h : flt (stF f k).2 (sqN f (k + 2)) = false) : stF f (k + 1) = stF f k := by
  rw [stF, if_neg (by rw [h]; exact Bool.false_ne_true)]
def outST (f : Nat → Nat) : Int × Nat × Int := if rdK f 8 = true then ((stF f 3).1, (stF f 3).2, 0) else (0, 0, 2)
def StQ (a : Int × Nat × Int) (w : World) (e : Ending) (w' : World) : Prop := ∃ r, e = .returned (.tuple #[.int .i64 a.1, .float .f32 r, .int .i64 a.2.2]) ∧ FV r a.2.1 ∧ Below w.heap.size w w'
theorem flt_both {r s x y : Nat} (hr : FV r x) (hs : FV s y) : flt r s = flt x y := by rw [← flt_cn r s, hr.1, hs.1]

set_option maxHeartbeats 8000000 in
theorem strongest_spec (y0 y1 y2 y3 y4 y5 y6 y7 : Nat) (l0 : y0 < 4294967296) (l1 : y1 < 4294967296) (l2 : y2 < 4294967296) (l3 : y3 < 4294967296) (l4 : y4 < 4294967296) (l5 : y5 < 4294967296) (l6 : y6 < 4294967296) (l7 : y7 < 4294967296) (w : World) :
    Calls Try.prog 24 #[(.agg #[.float .f32 y0, .float .f32 y1, .float .f32 y2, .float .f32 y3, .float .f32 y4, .float .f32 y5, .float .f32 y6, .float .f32 y7])] w (StQ (outST (f8 y0 y1 y2 y3 y4 y5 y6 y7)) w) := by
  have b0 : Below w.heap.size w (w.alloc (.cells #[.float .f32 y0, .float .f32 y1, .float .f32 y2, .float .f32 y3, .float .f32 y4, .float .f32 y5, .float .f32 y6, .float .f32 y7] 36)) := balloc (Below.refl _ _) _
  have H1 : Hid (∀ w1, Below (w.alloc (.cells #[.float .f32 y0, .float .f32 y1, .float .f32 y2, .float .f32 y3, .float .f32 y4, .float .f32 y5, .float .f32 y6, .float .f32 y7] 36)).heap.size (w.alloc (.cells #[.float .f32 y0, .float .f32 y1, .float .f32 y2, .float .f32 y3, .float .f32 y4, .float .f32 y5, .float .f32 y6, .float .f32 y7] 36)) w1 → Calls Try.prog 68 #[.pointer (some ⟨w.heap.size, 0, none⟩), .int .i64 1] w1 (CQ (swi (f8 y0 y1 y2 y3 y4 y5 y6 y7) 1 8).1 (swi (f8 y0 y1 y2 y3 y4 y5 y6 y7) 1 8).2 w1)) := Lib.hid fun w1 hb => swing_spec_1 w.heap.size y0 y1 y2 y3 y4 y5 y6 y7 w1 ((bc hb w.heap.size 0 (by simp)).trans (by go_simp)) ((bc hb w.heap.size 1 (by simp)).trans (by go_simp)) ((bc hb w.heap.size 2 (by simp)).trans (by go_simp)) ((bc hb w.heap.size 3 (by simp)).trans (by go_simp)) ((bc hb w.heap.size 4 (by simp)).trans (by go_simp)) ((bc hb w.heap.size 5 (by simp)).trans (by go_simp)) ((bc hb w.heap.size 6 (by simp)).trans (by go_simp)) ((bc hb w.heap.size 7 (by simp)).trans (by go_simp))
  have H2 : Hid (∀ w1, Below (w.alloc (.cells #[.float .f32 y0, .float .f32 y1, .float .f32 y2, .float .f32 y3, .float .f32 y4, .float .f32 y5, .float .f32 y6, .float .f32 y7] 36)).heap.size (w.alloc (.cells #[.float .f32 y0, .float .f32 y1, .float .f32 y2, .float .f32 y3, .float .f32 y4, .float .f32 y5, .float .f32 y6, .float .f32 y7] 36)) w1 → Calls Try.prog 68 #[.pointer (some ⟨w.heap.size, 0, none⟩), .int .i64 2] w1 (CQ (swi (f8 y0 y1 y2 y3 y4 y5 y6 y7) 2 8).1 (swi (f8 y0 y1 y2 y3 y4 y5 y6 y7) 2 8).2 w1)) := Lib.hid fun w1 hb => swing_spec_2 w.heap.size y0 y1 y2 y3 y4 y5 y6 y7 w1 ((bc hb w.heap.size 0 (by simp)).trans (by go_simp)) ((bc hb w.heap.size 1 (by simp)).trans (by go_simp)) ((bc hb w.heap.size 2 (by simp)).trans (by go_simp)) ((bc hb w.heap.size 3 (by simp)).trans (by go_simp)) ((bc hb w.heap.size 4 (by simp)).trans (by go_simp)) ((bc hb w.heap.size 5 (by simp)).trans (by go_simp)) ((bc hb w.heap.size 6 (by simp)).trans (by go_simp)) ((bc hb w.heap.size 7 (by simp)).trans (by go_simp))
  have H3 : Hid (∀ w1, Below (w.alloc (.cells #[.float .f32 y0, .float .f32 y1, .float .f32 y2, .float .f32 y3, .float .f32 y4, .float .f32 y5, .float .f32 y6, .float .f32 y7] 36)).heap.size (w.alloc (.cells #[.float .f32 y0, .float .f32 y1, .float .f32 y2, .float .f32 y3, .float .f32 y4, .float .f32 y5, .float .f32 y6, .float .f32 y7] 36)) w1 → Calls Try.prog 68 #[.pointer (some ⟨w.heap.size, 0, none⟩), .int .i64 3] w1 (CQ (swi (f8 y0 y1 y2 y3 y4 y5 y6 y7) 3 8).1 (swi (f8 y0 y1 y2 y3 y4 y5 y6 y7) 3 8).2 w1)) := Lib.hid fun w1 hb => swing_spec_3 w.heap.size y0 y1 y2 y3 y4 y5 y6 y7 w1 ((bc hb w.heap.size 0 (by simp)).trans (by go_simp)) ((bc hb w.heap.size 1 (by simp)).trans (by go_simp)) ((bc hb w.heap.size 2 (by simp)).trans (by go_simp)) ((bc hb w.heap.size 3 (by simp)).trans (by go_simp)) ((bc hb w.heap.size 4 (by simp)).trans (by go_simp)) ((bc hb w.heap.size 5 (by simp)).trans (by go_simp)) ((bc hb w.heap.size 6 (by simp)).trans (by go_simp)) ((bc hb w.heap.size 7 (by simp)).trans (by go_simp))
  have H4 : Hid (∀ w1, Below (w.alloc (.cells #[.float .f32 y0, .float .f32 y1, .float .f32 y2, .float .f32 y3, .float .f32 y4, .float .f32 y5, .float .f32 y6, .float .f32 y7] 36)).heap.size (w.alloc (.cells #[.float .f32 y0, .float .f32 y1, .float .f32 y2, .float .f32 y3, .float .f32 y4, .float .f32 y5, .float .f32 y6, .float .f32 y7] 36)) w1 → Calls Try.prog 68 #[.pointer (some ⟨w.heap.size, 0, none⟩), .int .i64 4] w1 (CQ (swi (f8 y0 y1 y2 y3 y4 y5 y6 y7) 4 8).1 (swi (f8 y0 y1 y2 y3 y4 y5 y6 y7) 4 8).2 w1)) := Lib.hid fun w1 hb => swing_spec_4 w.heap.size y0 y1 y2 y3 y4 y5 y6 y7 w1 ((bc hb w.heap.size 0 (by simp)).trans (by go_simp)) ((bc hb w.heap.size 1 (by simp)).trans (by go_simp)) ((bc hb w.heap.size 2 (by simp)).trans (by go_simp)) ((bc hb w.heap.size 3 (by simp)).trans (by go_simp)) ((bc hb w.heap.size 4 (by simp)).trans (by go_simp)) ((bc hb w.heap.size 5 (by simp)).trans (by go_simp)) ((bc hb w.heap.size 6 (by simp)).trans (by go_simp)) ((bc hb w.heap.size 7 (by simp)).trans (by go_simp))
  have HRd : Hid (∀ w1, Below (w.alloc (.cells #[.float .f32 y0, .float .f32 y1, .float .f32 y2, .float .f32 y3, .float .f32 y4, .float .f32 y5, .float .f32 y6, .float .f32 y7] 36)).heap.size (w.alloc (.cells #[.float .f32 y0, .float .f32 y1, .float .f32 y2, .float .f32 y3, .float .f32 y4, .float .f32 y5, .float .f32 y6, .float .f32 y7] 36)) w1 → Calls Try.prog 67 #[.pointer (some ⟨w.heap.size, 0, none⟩)] w1 fun e w' => e = .returned (.bool (rdK (f8 y0 y1 y2 y3 y4 y5 y6 y7) 8)) ∧ Below w1.heap.size w1 w') := Lib.hid fun w1 hb => l07Readings_any w.heap.size y0 y1 y2 y3 y4 y5 y6 y7 l0 l1 l2 l3 l4 l5 l6 l7 w1 ((bc hb w.heap.size 0 (by simp)).trans (by go_simp)) ((bc hb w.heap.size 1 (by simp)).trans (by go_simp)) ((bc hb w.heap.size 2 (by simp)).trans (by go_simp)) ((bc hb w.heap.size 3 (by simp)).trans (by go_simp)) ((bc hb w.heap.size 4 (by simp)).trans (by go_simp)) ((bc hb w.heap.size 5 (by simp)).trans (by go_simp)) ((bc hb w.heap.size 6 (by simp)).trans (by go_simp)) ((bc hb w.heap.size 7 (by simp)).trans (by go_simp))
  cases hr : rdK (f8 y0 y1 y2 y3 y4 y5 y6 y7) 8
  · have e1 : outST (f8 y0 y1 y2 y3 y4 y5 y6 y7) = (0, 0, 2) := by unfold outST; rw [hr]; rfl
    rw [hr] at HRd
    rw [e1]; clear e1 hr
    go_enter Try.func24, Try.ntmps24
    go_wp2_with (go_at_call 67; refine (HRd.out _ (Below.refl _ _)).mono ?_; rintro e w1 ⟨rfl, hb1⟩)
    go_ret3
    exact ⟨0, rfl, FV_zero, bstep b0 hb1⟩
  · have e1 : outST (f8 y0 y1 y2 y3 y4 y5 y6 y7) = ((stF (f8 y0 y1 y2 y3 y4 y5 y6 y7) 3).1, (stF (f8 y0 y1 y2 y3 y4 y5 y6 y7) 3).2, 0) := by unfold outST; rw [hr]; rfl
    rw [hr] at HRd
    rw [e1]; clear e1 hr
    have HS : Hid (∀ a b w1, Calls Try.prog 71 #[.complex .f32 a b] w1 (FQ (sqV (cn a) (cn b)) w1)) := Lib.hid l07Square_any
    go_enter Try.func24, Try.ntmps24
    go_wp2_with (go_at_call 67; refine (HRd.out _ (Below.refl _ _)).mono ?_; rintro e w1 ⟨rfl, hb1⟩)
    go_at_call 68
    refine (H1.out _ hb1).mono ?_
    rintro e w2 ⟨r, s, rfl, hr, hs, hb2⟩
    have b2 := bstep hb1 hb2
    go_wp2_with fail
    go_at_call 71
    refine (HS.out _ _ _).mono ?_
    rintro e w3 ⟨m, rfl, hm, hb3⟩
    have b3 := bstep b2 hb3
    have HM : Hid (FV m (stF (f8 y0 y1 y2 y3 y4 y5 y6 y7) 0).2) := Lib.hid (by rw [hr.1, hs.1] at hm; exact hm)
    clear hr hs hm
    go_wp2
    go_loopw [5, 6, 7] (fun at_ mo i wr => ∃ k q : Nat, ∃ z a : Int, k ≤ 3 ∧ z = k + 2 ∧ i = .int .i64 z ∧ at_ = .int .i64 a ∧ mo = .float .f32 q ∧ Hid (a = (stF (f8 y0 y1 y2 y3 y4 y5 y6 y7) k).1 ∧ FV q (stF (f8 y0 y1 y2 y3 y4 y5 y6 y7) k).2) ∧ Below (w.alloc (.cells #[.float .f32 y0, .float .f32 y1, .float .f32 y2, .float .f32 y3, .float .f32 y4, .float .f32 y5, .float .f32 y6, .float .f32 y7] 36)).heap.size (w.alloc (.cells #[.float .f32 y0, .float .f32 y1, .float .f32 y2, .float .f32 y3, .float .f32 y4, .float .f32 y5, .float .f32 y6, .float .f32 y7] 36)) wr) (fun _ _ i _ => 5 - (intOf i).toNat)
    case atStart => exact ⟨0, m, 2, 1, by omega, rfl, rfl, rfl, rfl, Lib.hid ⟨rfl, HM.out⟩, b3⟩
    case round =>
      obtain ⟨k, q, z, a, hk, hz, rfl, rfl, rfl, HF, hb⟩ := hrel
      have hk4 : k = 0 ∨ k = 1 ∨ k = 2 ∨ k = 3 := by omega
      rcases hk4 with rfl | rfl | rfl | rfl
      · obtain rfl : z = 2 := by simpa using hz
        clear hz hk
        go_wp2_with fail
        go_at_call 68
        refine (H2.out _ hb).mono ?_
        rintro e w5 ⟨r, s, rfl, hr, hs, hb5⟩
        have b5 := bstep hb hb5
        go_wp2_with fail
        go_at_call 71
        refine (HS.out _ _ _).mono ?_
        rintro e w6 ⟨p, rfl, hp, hb6⟩
        have b6 := bstep b5 hb6
        rw [hr.1, hs.1] at hp
        have HP := Lib.hid hp
        have HN := Lib.hid (flt_both HF.out.2 hp)
        clear hr hs hp
        cases hq : flt q p
        · have HL := Lib.hid (stF_leave (HN.out.symm.trans hq))
          go_wp2
          go_roundw
          case rel => exact ⟨0 + 1, q, 2 + 1, a, by omega, by simp, rfl, rfl, rfl, Lib.hid (by rw [HL.out]; exact HF.out), b6⟩
          case measure => simp [intOf]
        · have HL := Lib.hid (stF_take (HN.out.symm.trans hq))
          go_wp2
          go_roundw
          case rel => exact ⟨0 + 1, p, 2 + 1, 2, by omega, by simp, rfl, rfl, rfl, Lib.hid (by rw [HL.out]; exact ⟨rfl, HP.out⟩), b6⟩
          case measure => simp [intOf]
      · obtain rfl : z = 3 := by simpa using hz
        clear hz hk
        go_wp2_with fail
        go_at_call 68
        refine (H3.out _ hb).mono ?_
        rintro e w5 ⟨r, s, rfl, hr, hs, hb5⟩
        have b5 := bstep hb hb5
        go_wp2_with fail
        go_at_call 71
        refine (HS.out _ _ _).mono ?_
        rintro e w6 ⟨p, rfl, hp, hb6⟩
        have b6 := bstep b5 hb6
        rw [hr.1, hs.1] at hp
        have HP := Lib.hid hp
        have HN := Lib.hid (flt_both HF.out.2 hp)
        clear hr hs hp
        cases hq : flt q p
        · have HL := Lib.hid (stF_leave (HN.out.symm.trans hq))
          go_wp2
          go_roundw
          case rel => exact ⟨1 + 1, q, 3 + 1, a, by omega, by simp, rfl, rfl, rfl, Lib.hid (by rw [HL.out]; exact HF.out), b6⟩
          case measure => simp [intOf]
        · have HL := Lib.hid (stF_take (HN.out.symm.trans hq))
          go_wp2
          go_roundw
          case rel => exact ⟨1 + 1, p, 3 + 1, 3, by omega, by simp, rfl, rfl, rfl, Lib.hid (by rw [HL.out]; exact ⟨rfl, HP.out⟩), b6⟩
          case measure => simp [intOf]
      · obtain rfl : z = 4 := by simpa using hz
        clear hz hk
        go_wp2_with fail
        go_at_call 68
        refine (H4.out _ hb).mono ?_
        rintro e w5 ⟨r, s, rfl, hr, hs, hb5⟩
        have b5 := bstep hb hb5
        go_wp2_with fail
        go_at_call 71
        refine (HS.out _ _ _).mono ?_
        rintro e w6 ⟨p, rfl, hp, hb6⟩
        have b6 := bstep b5 hb6
        rw [hr.1, hs.1] at hp
        have HP := Lib.hid hp
        have HN := Lib.hid (flt_both HF.out.2 hp)
        clear hr hs hp
        cases hq : flt q p
        · have HL := Lib.hid (stF_leave (HN.out.symm.trans hq))
          go_wp2
          go_roundw
          case rel => exact ⟨2 + 1, q, 4 + 1, a, by omega, by simp, rfl, rfl, rfl, Lib.hid (by rw [HL.out]; exact HF.out), b6⟩
          case measure => simp [intOf]
        · have HL := Lib.hid (stF_take (HN.out.symm.trans hq))
          go_wp2
          go_roundw
          case rel => exact ⟨2 + 1, p, 4 + 1, 4, by omega, by simp, rfl, rfl, rfl, Lib.hid (by rw [HL.out]; exact ⟨rfl, HP.out⟩), b6⟩
          case measure => simp [intOf]
      · obtain rfl : z = 5 := by simpa using hz
        clear hz hk
        go_wp2
        go_ret3
        exact ⟨q, by rw [HF.out.1]; rfl, HF.out.2, bstep b0 hb⟩

set_option maxHeartbeats 8000000 in
theorem strongest_impl (y0 y1 y2 y3 y4 y5 y6 y7 : Nat) (l0 : y0 < 4294967296) (l1 : y1 < 4294967296) (l2 : y2 < 4294967296) (l3 : y3 < 4294967296) (l4 : y4 < 4294967296) (l5 : y5 < 4294967296) (l6 : y6 < 4294967296) (l7 : y7 < 4294967296) (w : World) :
    Calls Try.prog 25 #[(.agg #[.float .f32 y0, .float .f32 y1, .float .f32 y2, .float .f32 y3, .float .f32 y4, .float .f32 y5, .float .f32 y6, .float .f32 y7])] w (StQ (outST (f8 y0 y1 y2 y3 y4 y5 y6 y7)) w) := by
  have b0 : Below w.heap.size w (w.alloc (.cells #[.float .f32 y0, .float .f32 y1, .float .f32 y2, .float .f32 y3, .float .f32 y4, .float .f32 y5, .float .f32 y6, .float .f32 y7] 36)) := balloc (Below.refl _ _) _
  have H1 : Hid (∀ w1, Below (w.alloc (.cells #[.float .f32 y0, .float .f32 y1, .float .f32 y2, .float .f32 y3, .float .f32 y4, .float .f32 y5, .float .f32 y6, .float .f32 y7] 36)).heap.size (w.alloc (.cells #[.float .f32 y0, .float .f32 y1, .float .f32 y2, .float .f32 y3, .float .f32 y4, .float .f32 y5, .float .f32 y6, .float .f32 y7] 36)) w1 → Calls Try.prog 70 #[(.agg #[.float .f32 y0, .float .f32 y1, .float .f32 y2, .float .f32 y3, .float .f32 y4, .float .f32 y5, .float .f32 y6, .float .f32 y7]), .int .i64 1] w1 (CQ (swi (f8 y0 y1 y2 y3 y4 y5 y6 y7) 1 8).1 (swi (f8 y0 y1 y2 y3 y4 y5 y6 y7) 1 8).2 w1)) := Lib.hid fun w1 hb => swing_impl_1 y0 y1 y2 y3 y4 y5 y6 y7 w1
  have H2 : Hid (∀ w1, Below (w.alloc (.cells #[.float .f32 y0, .float .f32 y1, .float .f32 y2, .float .f32 y3, .float .f32 y4, .float .f32 y5, .float .f32 y6, .float .f32 y7] 36)).heap.size (w.alloc (.cells #[.float .f32 y0, .float .f32 y1, .float .f32 y2, .float .f32 y3, .float .f32 y4, .float .f32 y5, .float .f32 y6, .float .f32 y7] 36)) w1 → Calls Try.prog 70 #[(.agg #[.float .f32 y0, .float .f32 y1, .float .f32 y2, .float .f32 y3, .float .f32 y4, .float .f32 y5, .float .f32 y6, .float .f32 y7]), .int .i64 2] w1 (CQ (swi (f8 y0 y1 y2 y3 y4 y5 y6 y7) 2 8).1 (swi (f8 y0 y1 y2 y3 y4 y5 y6 y7) 2 8).2 w1)) := Lib.hid fun w1 hb => swing_impl_2 y0 y1 y2 y3 y4 y5 y6 y7 w1
  have H3 : Hid (∀ w1, Below (w.alloc (.cells #[.float .f32 y0, .float .f32 y1, .float .f32 y2, .float .f32 y3, .float .f32 y4, .float .f32 y5, .float .f32 y6, .float .f32 y7] 36)).heap.size (w.alloc (.cells #[.float .f32 y0, .float .f32 y1, .float .f32 y2, .float .f32 y3, .float .f32 y4, .float .f32 y5, .float .f32 y6, .float .f32 y7] 36)) w1 → Calls Try.prog 70 #[(.agg #[.float .f32 y0, .float .f32 y1, .float .f32 y2, .float .f32 y3, .float .f32 y4, .float .f32 y5, .float .f32 y6, .float .f32 y7]), .int .i64 3] w1 (CQ (swi (f8 y0 y1 y2 y3 y4 y5 y6 y7) 3 8).1 (swi (f8 y0 y1 y2 y3 y4 y5 y6 y7) 3 8).2 w1)) := Lib.hid fun w1 hb => swing_impl_3 y0 y1 y2 y3 y4 y5 y6 y7 w1
  have H4 : Hid (∀ w1, Below (w.alloc (.cells #[.float .f32 y0, .float .f32 y1, .float .f32 y2, .float .f32 y3, .float .f32 y4, .float .f32 y5, .float .f32 y6, .float .f32 y7] 36)).heap.size (w.alloc (.cells #[.float .f32 y0, .float .f32 y1, .float .f32 y2, .float .f32 y3, .float .f32 y4, .float .f32 y5, .float .f32 y6, .float .f32 y7] 36)) w1 → Calls Try.prog 70 #[(.agg #[.float .f32 y0, .float .f32 y1, .float .f32 y2, .float .f32 y3, .float .f32 y4, .float .f32 y5, .float .f32 y6, .float .f32 y7]), .int .i64 4] w1 (CQ (swi (f8 y0 y1 y2 y3 y4 y5 y6 y7) 4 8).1 (swi (f8 y0 y1 y2 y3 y4 y5 y6 y7) 4 8).2 w1)) := Lib.hid fun w1 hb => swing_impl_4 y0 y1 y2 y3 y4 y5 y6 y7 w1
  have HRd : Hid (∀ w1, Below (w.alloc (.cells #[.float .f32 y0, .float .f32 y1, .float .f32 y2, .float .f32 y3, .float .f32 y4, .float .f32 y5, .float .f32 y6, .float .f32 y7] 36)).heap.size (w.alloc (.cells #[.float .f32 y0, .float .f32 y1, .float .f32 y2, .float .f32 y3, .float .f32 y4, .float .f32 y5, .float .f32 y6, .float .f32 y7] 36)) w1 → Calls Try.prog 69 #[(.agg #[.float .f32 y0, .float .f32 y1, .float .f32 y2, .float .f32 y3, .float .f32 y4, .float .f32 y5, .float .f32 y6, .float .f32 y7])] w1 fun e w' => e = .returned (.bool (rdK (f8 y0 y1 y2 y3 y4 y5 y6 y7) 8)) ∧ Below w1.heap.size w1 w') := Lib.hid fun w1 hb => areReadings_any y0 y1 y2 y3 y4 y5 y6 y7 l0 l1 l2 l3 l4 l5 l6 l7 w1
  have HCe : Hid (∀ w1, Below (w.alloc (.cells #[.float .f32 y0, .float .f32 y1, .float .f32 y2, .float .f32 y3, .float .f32 y4, .float .f32 y5, .float .f32 y6, .float .f32 y7] 36)).heap.size (w.alloc (.cells #[.float .f32 y0, .float .f32 y1, .float .f32 y2, .float .f32 y3, .float .f32 y4, .float .f32 y5, .float .f32 y6, .float .f32 y7] 36)) w1 → w1.cell? ⟨w.heap.size, 0, none⟩ = some (.float .f32 y0) ∧ w1.cell? ⟨w.heap.size, 1, none⟩ = some (.float .f32 y1) ∧ w1.cell? ⟨w.heap.size, 2, none⟩ = some (.float .f32 y2) ∧ w1.cell? ⟨w.heap.size, 3, none⟩ = some (.float .f32 y3) ∧ w1.cell? ⟨w.heap.size, 4, none⟩ = some (.float .f32 y4) ∧ w1.cell? ⟨w.heap.size, 5, none⟩ = some (.float .f32 y5) ∧ w1.cell? ⟨w.heap.size, 6, none⟩ = some (.float .f32 y6) ∧ w1.cell? ⟨w.heap.size, 7, none⟩ = some (.float .f32 y7)) := Lib.hid fun w1 hb => ⟨((bc hb w.heap.size 0 (by simp)).trans (by go_simp)), ((bc hb w.heap.size 1 (by simp)).trans (by go_simp)), ((bc hb w.heap.size 2 (by simp)).trans (by go_simp)), ((bc hb w.heap.size 3 (by simp)).trans (by go_simp)), ((bc hb w.heap.size 4 (by simp)).trans (by go_simp)), ((bc hb w.heap.size 5 (by simp)).trans (by go_simp)), ((bc hb w.heap.size 6 (by simp)).trans (by go_simp)), ((bc hb w.heap.size 7 (by simp)).trans (by go_simp))⟩
  cases hr : rdK (f8 y0 y1 y2 y3 y4 y5 y6 y7) 8
  · have e1 : outST (f8 y0 y1 y2 y3 y4 y5 y6 y7) = (0, 0, 2) := by unfold outST; rw [hr]; rfl
    rw [hr] at HRd
    rw [e1]; clear e1 hr
    go_enter Try.func25, Try.ntmps25
    go_wp2_with (go_at_call 69; refine (HRd.out _ (Below.refl _ _)).mono ?_; rintro e w1 ⟨rfl, hb1⟩)
    go_ret3
    exact ⟨0, rfl, FV_zero, bstep b0 hb1⟩
  · have e1 : outST (f8 y0 y1 y2 y3 y4 y5 y6 y7) = ((stF (f8 y0 y1 y2 y3 y4 y5 y6 y7) 3).1, (stF (f8 y0 y1 y2 y3 y4 y5 y6 y7) 3).2, 0) := by unfold outST; rw [hr]; rfl
    rw [hr] at HRd
    rw [e1]; clear e1 hr
    have HS : Hid (∀ a b w1, Calls Try.prog 46 #[.complex .f32 a b] w1 (FQ (sqV (cn a) (cn b)) w1)) := Lib.hid squareOf_any
    go_enter Try.func25, Try.ntmps25
    go_wp2_with (go_at_call 69; refine (HRd.out _ (Below.refl _ _)).mono ?_; rintro e w1 ⟨rfl, hb1⟩; obtain ⟨c0, c1, c2, c3, c4, c5, c6, c7⟩ := HCe.out _ hb1)
    go_at_call 70
    refine (H1.out _ hb1).mono ?_
    rintro e w2 ⟨r, s, rfl, hr, hs, hb2⟩
    have b2 := bstep hb1 hb2
    go_wp2_with fail
    go_at_call 46
    refine (HS.out _ _ _).mono ?_
    rintro e w3 ⟨m, rfl, hm, hb3⟩
    have b3 := bstep b2 hb3
    have HM : Hid (FV m (stF (f8 y0 y1 y2 y3 y4 y5 y6 y7) 0).2) := Lib.hid (by rw [hr.1, hs.1] at hm; exact hm)
    clear hr hs hm
    go_wp2
    go_loopw [5, 6, 7] (fun at_ mo i wr => ∃ k q : Nat, ∃ z a : Int, k ≤ 3 ∧ z = k + 2 ∧ i = .int .i64 z ∧ at_ = .int .i64 a ∧ mo = .float .f32 q ∧ Hid (a = (stF (f8 y0 y1 y2 y3 y4 y5 y6 y7) k).1 ∧ FV q (stF (f8 y0 y1 y2 y3 y4 y5 y6 y7) k).2) ∧ Below (w.alloc (.cells #[.float .f32 y0, .float .f32 y1, .float .f32 y2, .float .f32 y3, .float .f32 y4, .float .f32 y5, .float .f32 y6, .float .f32 y7] 36)).heap.size (w.alloc (.cells #[.float .f32 y0, .float .f32 y1, .float .f32 y2, .float .f32 y3, .float .f32 y4, .float .f32 y5, .float .f32 y6, .float .f32 y7] 36)) wr) (fun _ _ i _ => 5 - (intOf i).toNat)
    case atStart => exact ⟨0, m, 2, 1, by omega, rfl, rfl, rfl, rfl, Lib.hid ⟨rfl, HM.out⟩, b3⟩
    case round =>
      obtain ⟨k, q, z, a, hk, hz, rfl, rfl, rfl, HF, hb⟩ := hrel
      have hk4 : k = 0 ∨ k = 1 ∨ k = 2 ∨ k = 3 := by omega
      rcases hk4 with rfl | rfl | rfl | rfl
      · obtain rfl : z = 2 := by simpa using hz
        clear hz hk
        obtain ⟨c0, c1, c2, c3, c4, c5, c6, c7⟩ := HCe.out _ hb
        go_wp2_with fail
        go_at_call 70
        refine (H2.out _ hb).mono ?_
        rintro e w5 ⟨r, s, rfl, hr, hs, hb5⟩
        have b5 := bstep hb hb5
        go_wp2_with fail
        go_at_call 46
        refine (HS.out _ _ _).mono ?_
        rintro e w6 ⟨p, rfl, hp, hb6⟩
        have b6 := bstep b5 hb6
        rw [hr.1, hs.1] at hp
        have HP := Lib.hid hp
        have HN := Lib.hid (flt_both HF.out.2 hp)
        clear hr hs hp
        cases hq : flt q p
        · have HL := Lib.hid (stF_leave (HN.out.symm.trans hq))
          go_wp2
          go_roundw
          case rel => exact ⟨0 + 1, q, 2 + 1, a, by omega, by simp, rfl, rfl, rfl, Lib.hid (by rw [HL.out]; exact HF.out), b6⟩
          case measure => simp [intOf]
        · have HL := Lib.hid (stF_take (HN.out.symm.trans hq))
          go_wp2
          go_roundw
          case rel => exact ⟨0 + 1, p, 2 + 1, 2, by omega, by simp, rfl, rfl, rfl, Lib.hid (by rw [HL.out]; exact ⟨rfl, HP.out⟩), b6⟩
          case measure => simp [intOf]
      · obtain rfl : z = 3 := by simpa using hz
        clear hz hk
        obtain ⟨c0, c1, c2, c3, c4, c5, c6, c7⟩ := HCe.out _ hb
        go_wp2_with fail
        go_at_call 70
        refine (H3.out _ hb).mono ?_
        rintro e w5 ⟨r, s, rfl, hr, hs, hb5⟩
        have b5 := bstep hb hb5
        go_wp2_with fail
        go_at_call 46
        refine (HS.out _ _ _).mono ?_
        rintro e w6 ⟨p, rfl, hp, hb6⟩
        have b6 := bstep b5 hb6
        rw [hr.1, hs.1] at hp
        have HP := Lib.hid hp
        have HN := Lib.hid (flt_both HF.out.2 hp)
        clear hr hs hp
        cases hq : flt q p
        · have HL := Lib.hid (stF_leave (HN.out.symm.trans hq))
          go_wp2
          go_roundw
          case rel => exact ⟨1 + 1, q, 3 + 1, a, by omega, by simp, rfl, rfl, rfl, Lib.hid (by rw [HL.out]; exact HF.out), b6⟩
          case measure => simp [intOf]
        · have HL := Lib.hid (stF_take (HN.out.symm.trans hq))
          go_wp2
          go_roundw
          case rel => exact ⟨1 + 1, p, 3 + 1, 3, by omega, by simp, rfl, rfl, rfl, Lib.hid (by rw [HL.out]; exact ⟨rfl, HP.out⟩), b6⟩
          case measure => simp [intOf]
      · obtain rfl : z = 4 := by simpa using hz
        clear hz hk
        obtain ⟨c0, c1, c2, c3, c4, c5, c6, c7⟩ := HCe.out _ hb
        go_wp2_with fail
        go_at_call 70
        refine (H4.out _ hb).mono ?_
        rintro e w5 ⟨r, s, rfl, hr, hs, hb5⟩
        have b5 := bstep hb hb5
        go_wp2_with fail
        go_at_call 46
        refine (HS.out _ _ _).mono ?_
        rintro e w6 ⟨p, rfl, hp, hb6⟩
        have b6 := bstep b5 hb6
        rw [hr.1, hs.1] at hp
        have HP := Lib.hid hp
        have HN := Lib.hid (flt_both HF.out.2 hp)
        clear hr hs hp
        cases hq : flt q p
        · have HL := Lib.hid (stF_leave (HN.out.symm.trans hq))
          go_wp2
          go_roundw
          case rel => exact ⟨2 + 1, q, 4 + 1, a, by omega, by simp, rfl, rfl, rfl, Lib.hid (by rw [HL.out]; exact HF.out), b6⟩
          case measure => simp [intOf]
        · have HL := Lib.hid (stF_take (HN.out.symm.trans hq))
          go_wp2
          go_roundw
          case rel => exact ⟨2 + 1, p, 4 + 1, 4, by omega, by simp, rfl, rfl, rfl, Lib.hid (by rw [HL.out]; exact ⟨rfl, HP.out⟩), b6⟩
          case measure => simp [intOf]
      · obtain rfl : z = 5 := by simpa using hz
        clear hz hk
        go_wp2
        go_ret3
        exact ⟨q, by rw [HF.out.1]; rfl, HF.out.2, bstep b0 hb⟩
end Go.Proofs.Ytiipnbccfbielaa
