/- After how many weeks a tooth is worn: contracts and the law. -/
import Derived.Test.YtljcjgliddhgkaaDoorTooth7
namespace Go.Proofs.YtljcjgliddhgkaaDoor
open Go.RowKit Ieee
set_option maxRecDepth 100000

/-- Worn after k weeks. -/
def wks (h u l : Nat) : Nat → Nat
  | 0 => u
  | k + 1 => wornV h (wks h u l k) l
theorem wornV_cn (h u l : Nat) : wornV h (cn u) l = wornV h u l := by unfold wornV; rw [cn_cn]
/-- The first week (of those from i on, d of them) at which the limit is passed. -/
def wkF (h u l q : Nat) : Nat → Nat → Option Nat
  | 0, _ => none
  | d + 1, i => if flt q (wks h u l i) = true then some i else wkF h u l q d (i + 1)
def wkC : Option Nat → Int × Int
  | some n => (n, 0)
  | none => (0, 6)
def weeksA (h x y : Nat) (s : Int) (l q : Nat) : Int × Int :=
  if okTooth h x y s = true then (if (amount l && part q) = true then wkC (wkF h (cn (if s = 0 then x else y)) l (cn q) 105 0) else (0, 2)) else (0, 1)
theorem wkF_hit {h u l q i : Nat} (hi : i < 105) (hq : flt q (wks h u l i) = true) : wkF h u l q (105 - i) i = some i := by
  obtain ⟨d, hd⟩ : ∃ d, 105 - i = d + 1 := ⟨104 - i, by omega⟩
  rw [hd, wkF, if_pos hq]
theorem wkF_miss {h u l q i : Nat} (hi : i < 105) (hq : flt q (wks h u l i) = false) : wkF h u l q (105 - i) i = wkF h u l q (105 - (i + 1)) (i + 1) := by
  obtain ⟨d, hd⟩ : ∃ d, 105 - i = d + 1 := ⟨104 - i, by omega⟩
  rw [hd, wkF, if_neg (by simp [hq]), show 105 - (i + 1) = d by omega]
theorem flt_v {q r v : Nat} (hr : FV r v) : flt q r = flt (cn q) v := by rw [← flt_cn q r, hr.1]
def WeeksQ (a : Int × Int) (w : World) (e : Ending) (w' : World) : Prop := e = .returned (.tuple #[.int .i64 a.1, .int .i64 a.2]) ∧ Below w.heap.size w w'

set_option maxHeartbeats 4000000 in
theorem weeks_spec0 (h x y : Nat) (l q : Nat) (hk : okTooth h x y 0 = true) (hx : x < 4294967296) (w : World) :
    Calls Tryd.prog 24 #[.agg #[.float .f32 h, .float .f32 x, .float .f32 y, .int .i8 0], .float .f32 l, .float .f32 q] w (WeeksQ (weeksA h x y 0 l q) w) := by
  cases ha : amount l
  · have e1 : weeksA h x y 0 l q = (0, 2) := by simp [weeksA, hk, ha]
    rw [e1]; clear e1
    go_enter Tryd.func24, Tryd.ntmps24
    go_wp2_with (first | (go_at_call 25; refine (okTooth_specx _ _ _ _ (by decide) (by decide) _).mono ?_; rintro e w' ⟨rfl, rfl⟩) | (go_at_call 43; refine (l03Amount_any _ _).mono ?_; rintro e w' ⟨rfl, rfl⟩) | (go_at_call 52; refine (part_any _ _).mono ?_; rintro e w' ⟨rfl, rfl⟩))
    go_ret2
    refine ⟨rfl, ?_⟩
    (repeat (first | with_reducible exact Below.refl _ _ | with_reducible refine bset ?_ (by first | (simp; done) | (simp; omega) | omega) _ | with_reducible refine balloc ?_ _ | with_reducible refine bdrewN ?_ _ | with_reducible refine bdrew ?_ | with_reducible refine bstep ?_ (by assumption)))
  · cases hp : part q
    · have e1 : weeksA h x y 0 l q = (0, 2) := by simp [weeksA, hk, ha, hp]
      rw [e1]; clear e1
      go_enter Tryd.func24, Tryd.ntmps24
      go_wp2_with (first | (go_at_call 25; refine (okTooth_specx _ _ _ _ (by decide) (by decide) _).mono ?_; rintro e w' ⟨rfl, rfl⟩) | (go_at_call 43; refine (l03Amount_any _ _).mono ?_; rintro e w' ⟨rfl, rfl⟩) | (go_at_call 52; refine (part_any _ _).mono ?_; rintro e w' ⟨rfl, rfl⟩))
      go_ret2
      refine ⟨rfl, ?_⟩
      (repeat (first | with_reducible exact Below.refl _ _ | with_reducible refine bset ?_ (by first | (simp; done) | (simp; omega) | omega) _ | with_reducible refine balloc ?_ _ | with_reducible refine bdrewN ?_ _ | with_reducible refine bdrew ?_ | with_reducible refine bstep ?_ (by assumption)))
    · obtain ⟨a, ha1⟩ : ∃ a, a = weeksA h x y 0 l q := ⟨_, rfl⟩
      have e1 : wkC (wkF h (cn x) l (cn q) (105 - 0) 0) = a := by rw [ha1]; simp [weeksA, hk, ha, hp]
      rw [← ha1]
      have E1 := Lib.hid e1
      clear e1 ha1
      go_enter Tryd.func24, Tryd.ntmps24
      go_wp2_with (first | (go_at_call 25; refine (okTooth_specx _ _ _ _ (by decide) (by decide) _).mono ?_; rintro e w' ⟨rfl, rfl⟩) | (go_at_call 43; refine (l03Amount_any _ _).mono ?_; rintro e w' ⟨rfl, rfl⟩) | (go_at_call 52; refine (part_any _ _).mono ?_; rintro e w' ⟨rfl, rfl⟩))
      go_loopw [8] (fun i wr => ∃ k : Nat, ∃ r : Nat, k ≤ 105 ∧ i = .int .i64 k ∧ Hid (FV r (wks h (cn x) l k)) ∧ wr.cell? ⟨w.heap.size, 0, none⟩ = some (.float .f32 h) ∧ wr.cell? ⟨w.heap.size, 1, none⟩ = some (.float .f32 r) ∧ wr.cell? ⟨w.heap.size, 2, none⟩ = some (.float .f32 y) ∧ wr.cell? ⟨w.heap.size, 3, none⟩ = some (.int .i8 0) ∧ (∀ j, wr.frozen? ⟨w.heap.size, j, none⟩ = false) ∧ w.heap.size < wr.heap.size ∧ Hid (wkC (wkF h (cn x) l (cn q) (105 - k) k) = a) ∧ Below w.heap.size w wr) (fun i _ => 105 - (intOf i).toNat)
      case atStart => exact ⟨0, x, by omega, rfl, Lib.hid ⟨rfl, hx⟩, by go_simp, by go_simp, by go_simp, by go_simp, fun j => by go_simp, by go_simp <;> omega, E1, by (repeat (first | with_reducible exact Below.refl _ _ | with_reducible refine bset ?_ (by first | (simp; done) | (simp; omega) | omega) _ | with_reducible refine balloc ?_ _ | with_reducible refine bdrewN ?_ _ | with_reducible refine bdrew ?_ | with_reducible refine bstep ?_ (by assumption)))⟩
      case round =>
        obtain ⟨k, r, hk5, rfl, HV, c0, c1, c2, c3, hf, hz, HE, hB⟩ := hrel
        clear E1
        by_cases hlt : k < 105
        · have hfv : flt q r = flt (cn q) (wks h (cn x) l k) := flt_v HV.out
          cases hq : flt q r
          · rw [hq] at hfv
            have HE2 := Lib.hid ((congrArg wkC (wkF_miss hlt hfv.symm)).symm.trans HE.out)
            clear HE hfv
            have hw1 := worn0_any h r y l
            rw [← wornV_cn h r l, HV.out.1] at hw1
            have HW := Lib.hid hw1
            clear hw1 HV
            go_wp2_with (go_at_call 44; refine (HW.out _).mono ?_; rintro e w1 ⟨r1, rfl, hr1, hb1⟩; have g0 := (bc hb1 w.heap.size 0 hz).trans c0; have g1 := (bc hb1 w.heap.size 1 hz).trans c1; have g2 := (bc hb1 w.heap.size 2 hz).trans c2; have g3 := (bc hb1 w.heap.size 3 hz).trans c3; have gf := fun j => (bf hb1 w.heap.size j hz).trans (hf j); have gz : w.heap.size < w1.heap.size := Nat.lt_of_lt_of_le hz hb1.size; have gB := bstep hB hb1; have HR1 := Lib.hid hr1; clear c0 c1 c2 c3 hf hz hB hb1 hr1)
            go_roundw
            case rel => exact ⟨k + 1, r1, by omega, by go_num, HR1, by go_simp, by go_simp, by go_simp, by go_simp, fun j => by go_simp, by go_simp <;> omega, HE2, by (repeat (first | with_reducible exact Below.refl _ _ | with_reducible refine bset ?_ (by first | (simp; done) | (simp; omega) | omega) _ | with_reducible refine balloc ?_ _ | with_reducible refine bdrewN ?_ _ | with_reducible refine bdrew ?_ | with_reducible refine bstep ?_ (by assumption)))⟩
            case measure => simp [intOf]; omega
          · rw [hq] at hfv
            have hd := HE.out
            rw [wkF_hit hlt hfv.symm] at hd
            have hd2 : ((k : Int), (0 : Int)) = a := hd
            have HD := Lib.hid hd2
            clear hd hd2 HE hfv HV
            go_wp2
            go_ret2
            obtain rfl := HD.out
            exact ⟨rfl, hB⟩
        · obtain rfl : k = 105 := by omega
          have hd : ((0 : Int), (6 : Int)) = a := HE.out
          have HD := Lib.hid hd
          clear hd HE
          go_wp2
          go_ret2
          obtain rfl := HD.out
          exact ⟨rfl, hB⟩
set_option maxHeartbeats 4000000 in
theorem weeks_spec1 (h x y : Nat) (l q : Nat) (hk : okTooth h x y 1 = true) (hx : y < 4294967296) (w : World) :
    Calls Tryd.prog 24 #[.agg #[.float .f32 h, .float .f32 x, .float .f32 y, .int .i8 1], .float .f32 l, .float .f32 q] w (WeeksQ (weeksA h x y 1 l q) w) := by
  cases ha : amount l
  · have e1 : weeksA h x y 1 l q = (0, 2) := by simp [weeksA, hk, ha]
    rw [e1]; clear e1
    go_enter Tryd.func24, Tryd.ntmps24
    go_wp2_with (first | (go_at_call 25; refine (okTooth_specx _ _ _ _ (by decide) (by decide) _).mono ?_; rintro e w' ⟨rfl, rfl⟩) | (go_at_call 43; refine (l03Amount_any _ _).mono ?_; rintro e w' ⟨rfl, rfl⟩) | (go_at_call 52; refine (part_any _ _).mono ?_; rintro e w' ⟨rfl, rfl⟩))
    go_ret2
    refine ⟨rfl, ?_⟩
    (repeat (first | with_reducible exact Below.refl _ _ | with_reducible refine bset ?_ (by first | (simp; done) | (simp; omega) | omega) _ | with_reducible refine balloc ?_ _ | with_reducible refine bdrewN ?_ _ | with_reducible refine bdrew ?_ | with_reducible refine bstep ?_ (by assumption)))
  · cases hp : part q
    · have e1 : weeksA h x y 1 l q = (0, 2) := by simp [weeksA, hk, ha, hp]
      rw [e1]; clear e1
      go_enter Tryd.func24, Tryd.ntmps24
      go_wp2_with (first | (go_at_call 25; refine (okTooth_specx _ _ _ _ (by decide) (by decide) _).mono ?_; rintro e w' ⟨rfl, rfl⟩) | (go_at_call 43; refine (l03Amount_any _ _).mono ?_; rintro e w' ⟨rfl, rfl⟩) | (go_at_call 52; refine (part_any _ _).mono ?_; rintro e w' ⟨rfl, rfl⟩))
      go_ret2
      refine ⟨rfl, ?_⟩
      (repeat (first | with_reducible exact Below.refl _ _ | with_reducible refine bset ?_ (by first | (simp; done) | (simp; omega) | omega) _ | with_reducible refine balloc ?_ _ | with_reducible refine bdrewN ?_ _ | with_reducible refine bdrew ?_ | with_reducible refine bstep ?_ (by assumption)))
    · obtain ⟨a, ha1⟩ : ∃ a, a = weeksA h x y 1 l q := ⟨_, rfl⟩
      have e1 : wkC (wkF h (cn y) l (cn q) (105 - 0) 0) = a := by rw [ha1]; simp [weeksA, hk, ha, hp]
      rw [← ha1]
      have E1 := Lib.hid e1
      clear e1 ha1
      go_enter Tryd.func24, Tryd.ntmps24
      go_wp2_with (first | (go_at_call 25; refine (okTooth_specx _ _ _ _ (by decide) (by decide) _).mono ?_; rintro e w' ⟨rfl, rfl⟩) | (go_at_call 43; refine (l03Amount_any _ _).mono ?_; rintro e w' ⟨rfl, rfl⟩) | (go_at_call 52; refine (part_any _ _).mono ?_; rintro e w' ⟨rfl, rfl⟩))
      go_loopw [8] (fun i wr => ∃ k : Nat, ∃ r : Nat, k ≤ 105 ∧ i = .int .i64 k ∧ Hid (FV r (wks h (cn y) l k)) ∧ wr.cell? ⟨w.heap.size, 0, none⟩ = some (.float .f32 h) ∧ wr.cell? ⟨w.heap.size, 1, none⟩ = some (.float .f32 x) ∧ wr.cell? ⟨w.heap.size, 2, none⟩ = some (.float .f32 r) ∧ wr.cell? ⟨w.heap.size, 3, none⟩ = some (.int .i8 1) ∧ (∀ j, wr.frozen? ⟨w.heap.size, j, none⟩ = false) ∧ w.heap.size < wr.heap.size ∧ Hid (wkC (wkF h (cn y) l (cn q) (105 - k) k) = a) ∧ Below w.heap.size w wr) (fun i _ => 105 - (intOf i).toNat)
      case atStart => exact ⟨0, y, by omega, rfl, Lib.hid ⟨rfl, hx⟩, by go_simp, by go_simp, by go_simp, by go_simp, fun j => by go_simp, by go_simp <;> omega, E1, by (repeat (first | with_reducible exact Below.refl _ _ | with_reducible refine bset ?_ (by first | (simp; done) | (simp; omega) | omega) _ | with_reducible refine balloc ?_ _ | with_reducible refine bdrewN ?_ _ | with_reducible refine bdrew ?_ | with_reducible refine bstep ?_ (by assumption)))⟩
      case round =>
        obtain ⟨k, r, hk5, rfl, HV, c0, c1, c2, c3, hf, hz, HE, hB⟩ := hrel
        clear E1
        by_cases hlt : k < 105
        · have hfv : flt q r = flt (cn q) (wks h (cn y) l k) := flt_v HV.out
          cases hq : flt q r
          · rw [hq] at hfv
            have HE2 := Lib.hid ((congrArg wkC (wkF_miss hlt hfv.symm)).symm.trans HE.out)
            clear HE hfv
            have hw1 := worn1_any h x r l
            rw [← wornV_cn h r l, HV.out.1] at hw1
            have HW := Lib.hid hw1
            clear hw1 HV
            go_wp2_with (go_at_call 44; refine (HW.out _).mono ?_; rintro e w1 ⟨r1, rfl, hr1, hb1⟩; have g0 := (bc hb1 w.heap.size 0 hz).trans c0; have g1 := (bc hb1 w.heap.size 1 hz).trans c1; have g2 := (bc hb1 w.heap.size 2 hz).trans c2; have g3 := (bc hb1 w.heap.size 3 hz).trans c3; have gf := fun j => (bf hb1 w.heap.size j hz).trans (hf j); have gz : w.heap.size < w1.heap.size := Nat.lt_of_lt_of_le hz hb1.size; have gB := bstep hB hb1; have HR1 := Lib.hid hr1; clear c0 c1 c2 c3 hf hz hB hb1 hr1)
            go_roundw
            case rel => exact ⟨k + 1, r1, by omega, by go_num, HR1, by go_simp, by go_simp, by go_simp, by go_simp, fun j => by go_simp, by go_simp <;> omega, HE2, by (repeat (first | with_reducible exact Below.refl _ _ | with_reducible refine bset ?_ (by first | (simp; done) | (simp; omega) | omega) _ | with_reducible refine balloc ?_ _ | with_reducible refine bdrewN ?_ _ | with_reducible refine bdrew ?_ | with_reducible refine bstep ?_ (by assumption)))⟩
            case measure => simp [intOf]; omega
          · rw [hq] at hfv
            have hd := HE.out
            rw [wkF_hit hlt hfv.symm] at hd
            have hd2 : ((k : Int), (0 : Int)) = a := hd
            have HD := Lib.hid hd2
            clear hd hd2 HE hfv HV
            go_wp2
            go_ret2
            obtain rfl := HD.out
            exact ⟨rfl, hB⟩
        · obtain rfl : k = 105 := by omega
          have hd : ((0 : Int), (6 : Int)) = a := HE.out
          have HD := Lib.hid hd
          clear hd HE
          go_wp2
          go_ret2
          obtain rfl := HD.out
          exact ⟨rfl, hB⟩
theorem weeks_spec (h x y : Nat) (s : Int) (l q : Nat) (hx : x < 4294967296) (hy : y < 4294967296) (hsl : -128 ≤ s) (hsu : s ≤ 127) (w : World) :
    Calls Tryd.prog 24 #[.agg #[.float .f32 h, .float .f32 x, .float .f32 y, .int .i8 s], .float .f32 l, .float .f32 q] w (WeeksQ (weeksA h x y s l q) w) := by
  cases hk : okTooth h x y s
  · have e1 : weeksA h x y s l q = (0, 1) := by simp [weeksA, hk]
    rw [e1]; clear e1
    go_enter Tryd.func24, Tryd.ntmps24
    go_wp2_with (go_at_call 25; refine (okTooth_specx _ _ _ _ hsl hsu _).mono ?_; rintro e w' ⟨rfl, rfl⟩)
    go_ret2
    refine ⟨rfl, ?_⟩
    (repeat (first | with_reducible exact Below.refl _ _ | with_reducible refine bset ?_ (by first | (simp; done) | (simp; omega) | omega) _ | with_reducible refine balloc ?_ _ | with_reducible refine bdrewN ?_ _ | with_reducible refine bdrew ?_ | with_reducible refine bstep ?_ (by assumption)))
  · rcases ok_side hk with rfl | rfl
    · exact weeks_spec0 h x y l q hk hx w
    · exact weeks_spec1 h x y l q hk hy w
end Go.Proofs.YtljcjgliddhgkaaDoor
