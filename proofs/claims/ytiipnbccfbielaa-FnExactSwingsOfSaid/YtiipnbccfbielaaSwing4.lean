/- All readings plain: both tests. -/
import Derived.Test.YtiipnbccfbielaaSwing
namespace Go.Proofs.Ytiipnbccfbielaa
open Go.RowKit Ieee
open Go.Proofs.YtiipnbccfbielaaW.PrintWords
set_option maxRecDepth 100000
attribute [local irreducible] wpRel

/-- The first k readings are plain. -/
def rdK (f : Nat → Nat) (k : Nat) : Bool := (List.range k).all fun i => plainV (f i)
theorem rdK_succ {f : Nat → Nat} {k : Nat} (h : rdK f k = true) (h1 : plainV (f k) = true) : rdK f (k + 1) = true := by
  unfold rdK at *
  rw [List.range_succ, List.all_append, h]
  simp only [List.all_cons, List.all_nil, h1, Bool.and_true]
theorem rdK_false {f : Nat → Nat} {k n : Nat} (hk : k < n) (h1 : plainV (f k) = false) : rdK f n = false := by
  unfold rdK
  rw [List.all_eq_false]
  exact ⟨k, by simpa using hk, by show ¬ plainV (f k) = true; rw [h1]; decide⟩
set_option maxHeartbeats 8000000 in
theorem areReadings_any (y0 y1 y2 y3 y4 y5 y6 y7 : Nat) (l0 : y0 < 4294967296) (l1 : y1 < 4294967296) (l2 : y2 < 4294967296) (l3 : y3 < 4294967296) (l4 : y4 < 4294967296) (l5 : y5 < 4294967296) (l6 : y6 < 4294967296) (l7 : y7 < 4294967296) (w : World) :
    Calls Try.prog 69 #[(.agg #[.float .f32 y0, .float .f32 y1, .float .f32 y2, .float .f32 y3, .float .f32 y4, .float .f32 y5, .float .f32 y6, .float .f32 y7])] w fun e w' => e = .returned (.bool (rdK (f8 y0 y1 y2 y3 y4 y5 y6 y7) 8)) ∧ Below w.heap.size w w' := by
  go_enter Try.func69, Try.ntmps69
  go_wp2
  go_loopw [6] (fun i wr => ∃ k : Nat, ∃ z : Int, k ≤ 8 ∧ z = k ∧ i = .int .i64 z ∧ Hid (rdK (f8 y0 y1 y2 y3 y4 y5 y6 y7) k = true) ∧ Below w.heap.size w wr) (fun i _ => 8 - (intOf i).toNat)
  case atStart => exact ⟨0, 0, by omega, rfl, rfl, Lib.hid (by simp [rdK]), by (repeat (first | with_reducible exact Below.refl _ _ | with_reducible refine bset ?_ (by first | (simp; done) | (simp; omega) | omega) _ | with_reducible refine balloc ?_ _ | with_reducible refine bdrewN ?_ _ | with_reducible refine bdrew ?_ | with_reducible refine bstep ?_ (by assumption)))⟩
  case round =>
    obtain ⟨k, z, hk, hz, rfl, HF, hb⟩ := hrel
    have hk8 : k = 0 ∨ k = 1 ∨ k = 2 ∨ k = 3 ∨ k = 4 ∨ k = 5 ∨ k = 6 ∨ k = 7 ∨ k = 8 := by omega
    rcases hk8 with rfl | rfl | rfl | rfl | rfl | rfl | rfl | rfl | rfl
    · obtain rfl : z = 0 := by simpa using hz
      clear hz hk
      have ix : ∀ w, (Instr.index 36 (.agg #[.float .f32 y0, .float .f32 y1, .float .f32 y2, .float .f32 y3, .float .f32 y4, .float .f32 y5, .float .f32 y6, .float .f32 y7]) (.int .i64 0)).run Try.prog w = .ok (.float .f32 y0) w := fun _ => by kernel_rfl
      have HP := Lib.hid (plain_impl y0 (f8 y0 y1 y2 y3 y4 y5 y6 y7 0) ⟨rfl, l0⟩)
      cases hp : plainV (f8 y0 y1 y2 y3 y4 y5 y6 y7 0)
      · rw [hp] at HP
        have HN := Lib.hid (rdK_false (n := 8) (by omega) hp)
        clear hp
        go_wp2_with (go_at_call 79; refine (HP.out _).mono ?_; rintro e w' ⟨rfl, rfl⟩)
        go_ret
        exact ⟨by rw [HN.out]; rfl, hb⟩
      · rw [hp] at HP
        have HN := Lib.hid (rdK_succ HF.out hp)
        clear hp
        go_wp2_with (go_at_call 79; refine (HP.out _).mono ?_; rintro e w' ⟨rfl, rfl⟩)
        go_roundw
        case rel => exact ⟨0 + 1, 0 + 1, by omega, by simp, rfl, HN, hb⟩
        case measure => simp [intOf]
    · obtain rfl : z = 1 := by simpa using hz
      clear hz hk
      have ix : ∀ w, (Instr.index 36 (.agg #[.float .f32 y0, .float .f32 y1, .float .f32 y2, .float .f32 y3, .float .f32 y4, .float .f32 y5, .float .f32 y6, .float .f32 y7]) (.int .i64 1)).run Try.prog w = .ok (.float .f32 y1) w := fun _ => by kernel_rfl
      have HP := Lib.hid (plain_impl y1 (f8 y0 y1 y2 y3 y4 y5 y6 y7 1) ⟨rfl, l1⟩)
      cases hp : plainV (f8 y0 y1 y2 y3 y4 y5 y6 y7 1)
      · rw [hp] at HP
        have HN := Lib.hid (rdK_false (n := 8) (by omega) hp)
        clear hp
        go_wp2_with (go_at_call 79; refine (HP.out _).mono ?_; rintro e w' ⟨rfl, rfl⟩)
        go_ret
        exact ⟨by rw [HN.out]; rfl, hb⟩
      · rw [hp] at HP
        have HN := Lib.hid (rdK_succ HF.out hp)
        clear hp
        go_wp2_with (go_at_call 79; refine (HP.out _).mono ?_; rintro e w' ⟨rfl, rfl⟩)
        go_roundw
        case rel => exact ⟨1 + 1, 1 + 1, by omega, by simp, rfl, HN, hb⟩
        case measure => simp [intOf]
    · obtain rfl : z = 2 := by simpa using hz
      clear hz hk
      have ix : ∀ w, (Instr.index 36 (.agg #[.float .f32 y0, .float .f32 y1, .float .f32 y2, .float .f32 y3, .float .f32 y4, .float .f32 y5, .float .f32 y6, .float .f32 y7]) (.int .i64 2)).run Try.prog w = .ok (.float .f32 y2) w := fun _ => by kernel_rfl
      have HP := Lib.hid (plain_impl y2 (f8 y0 y1 y2 y3 y4 y5 y6 y7 2) ⟨rfl, l2⟩)
      cases hp : plainV (f8 y0 y1 y2 y3 y4 y5 y6 y7 2)
      · rw [hp] at HP
        have HN := Lib.hid (rdK_false (n := 8) (by omega) hp)
        clear hp
        go_wp2_with (go_at_call 79; refine (HP.out _).mono ?_; rintro e w' ⟨rfl, rfl⟩)
        go_ret
        exact ⟨by rw [HN.out]; rfl, hb⟩
      · rw [hp] at HP
        have HN := Lib.hid (rdK_succ HF.out hp)
        clear hp
        go_wp2_with (go_at_call 79; refine (HP.out _).mono ?_; rintro e w' ⟨rfl, rfl⟩)
        go_roundw
        case rel => exact ⟨2 + 1, 2 + 1, by omega, by simp, rfl, HN, hb⟩
        case measure => simp [intOf]
    · obtain rfl : z = 3 := by simpa using hz
      clear hz hk
      have ix : ∀ w, (Instr.index 36 (.agg #[.float .f32 y0, .float .f32 y1, .float .f32 y2, .float .f32 y3, .float .f32 y4, .float .f32 y5, .float .f32 y6, .float .f32 y7]) (.int .i64 3)).run Try.prog w = .ok (.float .f32 y3) w := fun _ => by kernel_rfl
      have HP := Lib.hid (plain_impl y3 (f8 y0 y1 y2 y3 y4 y5 y6 y7 3) ⟨rfl, l3⟩)
      cases hp : plainV (f8 y0 y1 y2 y3 y4 y5 y6 y7 3)
      · rw [hp] at HP
        have HN := Lib.hid (rdK_false (n := 8) (by omega) hp)
        clear hp
        go_wp2_with (go_at_call 79; refine (HP.out _).mono ?_; rintro e w' ⟨rfl, rfl⟩)
        go_ret
        exact ⟨by rw [HN.out]; rfl, hb⟩
      · rw [hp] at HP
        have HN := Lib.hid (rdK_succ HF.out hp)
        clear hp
        go_wp2_with (go_at_call 79; refine (HP.out _).mono ?_; rintro e w' ⟨rfl, rfl⟩)
        go_roundw
        case rel => exact ⟨3 + 1, 3 + 1, by omega, by simp, rfl, HN, hb⟩
        case measure => simp [intOf]
    · obtain rfl : z = 4 := by simpa using hz
      clear hz hk
      have ix : ∀ w, (Instr.index 36 (.agg #[.float .f32 y0, .float .f32 y1, .float .f32 y2, .float .f32 y3, .float .f32 y4, .float .f32 y5, .float .f32 y6, .float .f32 y7]) (.int .i64 4)).run Try.prog w = .ok (.float .f32 y4) w := fun _ => by kernel_rfl
      have HP := Lib.hid (plain_impl y4 (f8 y0 y1 y2 y3 y4 y5 y6 y7 4) ⟨rfl, l4⟩)
      cases hp : plainV (f8 y0 y1 y2 y3 y4 y5 y6 y7 4)
      · rw [hp] at HP
        have HN := Lib.hid (rdK_false (n := 8) (by omega) hp)
        clear hp
        go_wp2_with (go_at_call 79; refine (HP.out _).mono ?_; rintro e w' ⟨rfl, rfl⟩)
        go_ret
        exact ⟨by rw [HN.out]; rfl, hb⟩
      · rw [hp] at HP
        have HN := Lib.hid (rdK_succ HF.out hp)
        clear hp
        go_wp2_with (go_at_call 79; refine (HP.out _).mono ?_; rintro e w' ⟨rfl, rfl⟩)
        go_roundw
        case rel => exact ⟨4 + 1, 4 + 1, by omega, by simp, rfl, HN, hb⟩
        case measure => simp [intOf]
    · obtain rfl : z = 5 := by simpa using hz
      clear hz hk
      have ix : ∀ w, (Instr.index 36 (.agg #[.float .f32 y0, .float .f32 y1, .float .f32 y2, .float .f32 y3, .float .f32 y4, .float .f32 y5, .float .f32 y6, .float .f32 y7]) (.int .i64 5)).run Try.prog w = .ok (.float .f32 y5) w := fun _ => by kernel_rfl
      have HP := Lib.hid (plain_impl y5 (f8 y0 y1 y2 y3 y4 y5 y6 y7 5) ⟨rfl, l5⟩)
      cases hp : plainV (f8 y0 y1 y2 y3 y4 y5 y6 y7 5)
      · rw [hp] at HP
        have HN := Lib.hid (rdK_false (n := 8) (by omega) hp)
        clear hp
        go_wp2_with (go_at_call 79; refine (HP.out _).mono ?_; rintro e w' ⟨rfl, rfl⟩)
        go_ret
        exact ⟨by rw [HN.out]; rfl, hb⟩
      · rw [hp] at HP
        have HN := Lib.hid (rdK_succ HF.out hp)
        clear hp
        go_wp2_with (go_at_call 79; refine (HP.out _).mono ?_; rintro e w' ⟨rfl, rfl⟩)
        go_roundw
        case rel => exact ⟨5 + 1, 5 + 1, by omega, by simp, rfl, HN, hb⟩
        case measure => simp [intOf]
    · obtain rfl : z = 6 := by simpa using hz
      clear hz hk
      have ix : ∀ w, (Instr.index 36 (.agg #[.float .f32 y0, .float .f32 y1, .float .f32 y2, .float .f32 y3, .float .f32 y4, .float .f32 y5, .float .f32 y6, .float .f32 y7]) (.int .i64 6)).run Try.prog w = .ok (.float .f32 y6) w := fun _ => by kernel_rfl
      have HP := Lib.hid (plain_impl y6 (f8 y0 y1 y2 y3 y4 y5 y6 y7 6) ⟨rfl, l6⟩)
      cases hp : plainV (f8 y0 y1 y2 y3 y4 y5 y6 y7 6)
      · rw [hp] at HP
        have HN := Lib.hid (rdK_false (n := 8) (by omega) hp)
        clear hp
        go_wp2_with (go_at_call 79; refine (HP.out _).mono ?_; rintro e w' ⟨rfl, rfl⟩)
        go_ret
        exact ⟨by rw [HN.out]; rfl, hb⟩
      · rw [hp] at HP
        have HN := Lib.hid (rdK_succ HF.out hp)
        clear hp
        go_wp2_with (go_at_call 79; refine (HP.out _).mono ?_; rintro e w' ⟨rfl, rfl⟩)
        go_roundw
        case rel => exact ⟨6 + 1, 6 + 1, by omega, by simp, rfl, HN, hb⟩
        case measure => simp [intOf]
    · obtain rfl : z = 7 := by simpa using hz
      clear hz hk
      have ix : ∀ w, (Instr.index 36 (.agg #[.float .f32 y0, .float .f32 y1, .float .f32 y2, .float .f32 y3, .float .f32 y4, .float .f32 y5, .float .f32 y6, .float .f32 y7]) (.int .i64 7)).run Try.prog w = .ok (.float .f32 y7) w := fun _ => by kernel_rfl
      have HP := Lib.hid (plain_impl y7 (f8 y0 y1 y2 y3 y4 y5 y6 y7 7) ⟨rfl, l7⟩)
      cases hp : plainV (f8 y0 y1 y2 y3 y4 y5 y6 y7 7)
      · rw [hp] at HP
        have HN := Lib.hid (rdK_false (n := 8) (by omega) hp)
        clear hp
        go_wp2_with (go_at_call 79; refine (HP.out _).mono ?_; rintro e w' ⟨rfl, rfl⟩)
        go_ret
        exact ⟨by rw [HN.out]; rfl, hb⟩
      · rw [hp] at HP
        have HN := Lib.hid (rdK_succ HF.out hp)
        clear hp
        go_wp2_with (go_at_call 79; refine (HP.out _).mono ?_; rintro e w' ⟨rfl, rfl⟩)
        go_roundw
        case rel => exact ⟨7 + 1, 7 + 1, by omega, by simp, rfl, HN, hb⟩
        case measure => simp [intOf]
    · obtain rfl : z = 8 := by simpa using hz
      clear hz hk
      have HR := HF.out
      go_wp2
      go_ret
      exact ⟨by rw [HR]; rfl, hb⟩
set_option maxHeartbeats 8000000 in
theorem l07Readings_any (b y0 y1 y2 y3 y4 y5 y6 y7 : Nat) (l0 : y0 < 4294967296) (l1 : y1 < 4294967296) (l2 : y2 < 4294967296) (l3 : y3 < 4294967296) (l4 : y4 < 4294967296) (l5 : y5 < 4294967296) (l6 : y6 < 4294967296) (l7 : y7 < 4294967296) (w : World) (c0 : w.cell? ⟨b, 0, none⟩ = some (.float .f32 y0)) (c1 : w.cell? ⟨b, 1, none⟩ = some (.float .f32 y1)) (c2 : w.cell? ⟨b, 2, none⟩ = some (.float .f32 y2)) (c3 : w.cell? ⟨b, 3, none⟩ = some (.float .f32 y3)) (c4 : w.cell? ⟨b, 4, none⟩ = some (.float .f32 y4)) (c5 : w.cell? ⟨b, 5, none⟩ = some (.float .f32 y5)) (c6 : w.cell? ⟨b, 6, none⟩ = some (.float .f32 y6)) (c7 : w.cell? ⟨b, 7, none⟩ = some (.float .f32 y7)) :
    Calls Try.prog 67 #[.pointer (some ⟨b, 0, none⟩)] w fun e w' => e = .returned (.bool (rdK (f8 y0 y1 y2 y3 y4 y5 y6 y7) 8)) ∧ Below w.heap.size w w' := by
  have hl := World.block_lt_of_cell? w _ c0
  have C0 := Lib.hid c0
  have C1 := Lib.hid c1
  have C2 := Lib.hid c2
  have C3 := Lib.hid c3
  have C4 := Lib.hid c4
  have C5 := Lib.hid c5
  have C6 := Lib.hid c6
  have C7 := Lib.hid c7
  clear c0 c1 c2 c3 c4 c5 c6 c7
  go_enter Try.func67, Try.ntmps67
  go_wp2
  go_loopw [3] (fun i wr => ∃ k : Nat, ∃ z : Int, k ≤ 8 ∧ z = k ∧ i = .int .i64 z ∧ Hid (rdK (f8 y0 y1 y2 y3 y4 y5 y6 y7) k = true) ∧ Below w.heap.size w wr) (fun i _ => 8 - (intOf i).toNat)
  case atStart => exact ⟨0, 0, by omega, rfl, rfl, Lib.hid (by simp [rdK]), by (repeat (first | with_reducible exact Below.refl _ _ | with_reducible refine bset ?_ (by first | (simp; done) | (simp; omega) | omega) _ | with_reducible refine balloc ?_ _ | with_reducible refine bdrewN ?_ _ | with_reducible refine bdrew ?_ | with_reducible refine bstep ?_ (by assumption)))⟩
  case round =>
    obtain ⟨k, z, hk, hz, rfl, HF, hb⟩ := hrel
    have hk8 : k = 0 ∨ k = 1 ∨ k = 2 ∨ k = 3 ∨ k = 4 ∨ k = 5 ∨ k = 6 ∨ k = 7 ∨ k = 8 := by omega
    rcases hk8 with rfl | rfl | rfl | rfl | rfl | rfl | rfl | rfl | rfl
    · obtain rfl : z = 0 := by simpa using hz
      clear hz hk
      have d0 := (bc hb b 0 hl).trans C0.out
      have HP := Lib.hid (plain_spec y0 (f8 y0 y1 y2 y3 y4 y5 y6 y7 0) ⟨rfl, l0⟩)
      cases hp : plainV (f8 y0 y1 y2 y3 y4 y5 y6 y7 0)
      · rw [hp] at HP
        have HN := Lib.hid (rdK_false (n := 8) (by omega) hp)
        clear hp
        go_wp2_with (go_at_call 77; refine (HP.out _).mono ?_; rintro e w' ⟨rfl, rfl⟩)
        go_ret
        exact ⟨by rw [HN.out]; rfl, hb⟩
      · rw [hp] at HP
        have HN := Lib.hid (rdK_succ HF.out hp)
        clear hp
        go_wp2_with (go_at_call 77; refine (HP.out _).mono ?_; rintro e w' ⟨rfl, rfl⟩)
        go_roundw
        case rel => exact ⟨0 + 1, 0 + 1, by omega, by simp, rfl, HN, hb⟩
        case measure => simp [intOf]
    · obtain rfl : z = 1 := by simpa using hz
      clear hz hk
      have d0 := (bc hb b 1 hl).trans C1.out
      have HP := Lib.hid (plain_spec y1 (f8 y0 y1 y2 y3 y4 y5 y6 y7 1) ⟨rfl, l1⟩)
      cases hp : plainV (f8 y0 y1 y2 y3 y4 y5 y6 y7 1)
      · rw [hp] at HP
        have HN := Lib.hid (rdK_false (n := 8) (by omega) hp)
        clear hp
        go_wp2_with (go_at_call 77; refine (HP.out _).mono ?_; rintro e w' ⟨rfl, rfl⟩)
        go_ret
        exact ⟨by rw [HN.out]; rfl, hb⟩
      · rw [hp] at HP
        have HN := Lib.hid (rdK_succ HF.out hp)
        clear hp
        go_wp2_with (go_at_call 77; refine (HP.out _).mono ?_; rintro e w' ⟨rfl, rfl⟩)
        go_roundw
        case rel => exact ⟨1 + 1, 1 + 1, by omega, by simp, rfl, HN, hb⟩
        case measure => simp [intOf]
    · obtain rfl : z = 2 := by simpa using hz
      clear hz hk
      have d0 := (bc hb b 2 hl).trans C2.out
      have HP := Lib.hid (plain_spec y2 (f8 y0 y1 y2 y3 y4 y5 y6 y7 2) ⟨rfl, l2⟩)
      cases hp : plainV (f8 y0 y1 y2 y3 y4 y5 y6 y7 2)
      · rw [hp] at HP
        have HN := Lib.hid (rdK_false (n := 8) (by omega) hp)
        clear hp
        go_wp2_with (go_at_call 77; refine (HP.out _).mono ?_; rintro e w' ⟨rfl, rfl⟩)
        go_ret
        exact ⟨by rw [HN.out]; rfl, hb⟩
      · rw [hp] at HP
        have HN := Lib.hid (rdK_succ HF.out hp)
        clear hp
        go_wp2_with (go_at_call 77; refine (HP.out _).mono ?_; rintro e w' ⟨rfl, rfl⟩)
        go_roundw
        case rel => exact ⟨2 + 1, 2 + 1, by omega, by simp, rfl, HN, hb⟩
        case measure => simp [intOf]
    · obtain rfl : z = 3 := by simpa using hz
      clear hz hk
      have d0 := (bc hb b 3 hl).trans C3.out
      have HP := Lib.hid (plain_spec y3 (f8 y0 y1 y2 y3 y4 y5 y6 y7 3) ⟨rfl, l3⟩)
      cases hp : plainV (f8 y0 y1 y2 y3 y4 y5 y6 y7 3)
      · rw [hp] at HP
        have HN := Lib.hid (rdK_false (n := 8) (by omega) hp)
        clear hp
        go_wp2_with (go_at_call 77; refine (HP.out _).mono ?_; rintro e w' ⟨rfl, rfl⟩)
        go_ret
        exact ⟨by rw [HN.out]; rfl, hb⟩
      · rw [hp] at HP
        have HN := Lib.hid (rdK_succ HF.out hp)
        clear hp
        go_wp2_with (go_at_call 77; refine (HP.out _).mono ?_; rintro e w' ⟨rfl, rfl⟩)
        go_roundw
        case rel => exact ⟨3 + 1, 3 + 1, by omega, by simp, rfl, HN, hb⟩
        case measure => simp [intOf]
    · obtain rfl : z = 4 := by simpa using hz
      clear hz hk
      have d0 := (bc hb b 4 hl).trans C4.out
      have HP := Lib.hid (plain_spec y4 (f8 y0 y1 y2 y3 y4 y5 y6 y7 4) ⟨rfl, l4⟩)
      cases hp : plainV (f8 y0 y1 y2 y3 y4 y5 y6 y7 4)
      · rw [hp] at HP
        have HN := Lib.hid (rdK_false (n := 8) (by omega) hp)
        clear hp
        go_wp2_with (go_at_call 77; refine (HP.out _).mono ?_; rintro e w' ⟨rfl, rfl⟩)
        go_ret
        exact ⟨by rw [HN.out]; rfl, hb⟩
      · rw [hp] at HP
        have HN := Lib.hid (rdK_succ HF.out hp)
        clear hp
        go_wp2_with (go_at_call 77; refine (HP.out _).mono ?_; rintro e w' ⟨rfl, rfl⟩)
        go_roundw
        case rel => exact ⟨4 + 1, 4 + 1, by omega, by simp, rfl, HN, hb⟩
        case measure => simp [intOf]
    · obtain rfl : z = 5 := by simpa using hz
      clear hz hk
      have d0 := (bc hb b 5 hl).trans C5.out
      have HP := Lib.hid (plain_spec y5 (f8 y0 y1 y2 y3 y4 y5 y6 y7 5) ⟨rfl, l5⟩)
      cases hp : plainV (f8 y0 y1 y2 y3 y4 y5 y6 y7 5)
      · rw [hp] at HP
        have HN := Lib.hid (rdK_false (n := 8) (by omega) hp)
        clear hp
        go_wp2_with (go_at_call 77; refine (HP.out _).mono ?_; rintro e w' ⟨rfl, rfl⟩)
        go_ret
        exact ⟨by rw [HN.out]; rfl, hb⟩
      · rw [hp] at HP
        have HN := Lib.hid (rdK_succ HF.out hp)
        clear hp
        go_wp2_with (go_at_call 77; refine (HP.out _).mono ?_; rintro e w' ⟨rfl, rfl⟩)
        go_roundw
        case rel => exact ⟨5 + 1, 5 + 1, by omega, by simp, rfl, HN, hb⟩
        case measure => simp [intOf]
    · obtain rfl : z = 6 := by simpa using hz
      clear hz hk
      have d0 := (bc hb b 6 hl).trans C6.out
      have HP := Lib.hid (plain_spec y6 (f8 y0 y1 y2 y3 y4 y5 y6 y7 6) ⟨rfl, l6⟩)
      cases hp : plainV (f8 y0 y1 y2 y3 y4 y5 y6 y7 6)
      · rw [hp] at HP
        have HN := Lib.hid (rdK_false (n := 8) (by omega) hp)
        clear hp
        go_wp2_with (go_at_call 77; refine (HP.out _).mono ?_; rintro e w' ⟨rfl, rfl⟩)
        go_ret
        exact ⟨by rw [HN.out]; rfl, hb⟩
      · rw [hp] at HP
        have HN := Lib.hid (rdK_succ HF.out hp)
        clear hp
        go_wp2_with (go_at_call 77; refine (HP.out _).mono ?_; rintro e w' ⟨rfl, rfl⟩)
        go_roundw
        case rel => exact ⟨6 + 1, 6 + 1, by omega, by simp, rfl, HN, hb⟩
        case measure => simp [intOf]
    · obtain rfl : z = 7 := by simpa using hz
      clear hz hk
      have d0 := (bc hb b 7 hl).trans C7.out
      have HP := Lib.hid (plain_spec y7 (f8 y0 y1 y2 y3 y4 y5 y6 y7 7) ⟨rfl, l7⟩)
      cases hp : plainV (f8 y0 y1 y2 y3 y4 y5 y6 y7 7)
      · rw [hp] at HP
        have HN := Lib.hid (rdK_false (n := 8) (by omega) hp)
        clear hp
        go_wp2_with (go_at_call 77; refine (HP.out _).mono ?_; rintro e w' ⟨rfl, rfl⟩)
        go_ret
        exact ⟨by rw [HN.out]; rfl, hb⟩
      · rw [hp] at HP
        have HN := Lib.hid (rdK_succ HF.out hp)
        clear hp
        go_wp2_with (go_at_call 77; refine (HP.out _).mono ?_; rintro e w' ⟨rfl, rfl⟩)
        go_roundw
        case rel => exact ⟨7 + 1, 7 + 1, by omega, by simp, rfl, HN, hb⟩
        case measure => simp [intOf]
    · obtain rfl : z = 8 := by simpa using hz
      clear hz hk
      have HR := HF.out
      go_wp2
      go_ret
      exact ⟨by rw [HR]; rfl, hb⟩
end Go.Proofs.Ytiipnbccfbielaa
