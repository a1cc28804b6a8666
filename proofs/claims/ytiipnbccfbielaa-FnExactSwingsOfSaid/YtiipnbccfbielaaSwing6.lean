/- Eight floats copied. -/
import Derived.Test.YtiipnbccfbielaaSwing
namespace Go.Proofs.Ytiipnbccfbielaa
open Go.RowKit Ieee
open Go.Proofs.YtiipnbccfbielaaW.PrintWords
set_option maxRecDepth 100000
attribute [local irreducible] wpRel

/-- Behind k rounds of the copy: blocks s (what is read), s + 1 (the result's), s + 2 (what is written). -/
def CopyAt (Y : List Nat) (s : Nat) (w : World) (k : Nat) : Prop :=
  (∀ j, j < 8 → w.cell? ⟨s, j, none⟩ = some (.float .f32 (Y.getD j 0))) ∧
  (∀ j, j < 8 → w.cell? ⟨s + 2, j, none⟩ = some (.float .f32 (if j < k then Y.getD j 0 else 0)) ∧ w.frozen? ⟨s + 2, j, none⟩ = false) ∧
  (∀ j, j < 8 → w.cell? ⟨s + 1, j, none⟩ = some (.float .f32 0) ∧ w.frozen? ⟨s + 1, j, none⟩ = false) ∧ s + 2 < w.heap.size
theorem CopyAt.set {Y : List Nat} {s : Nat} {w : World} {k : Nat} (h : CopyAt Y s w k) (hk : k < 8) : CopyAt Y s (w.setCell ⟨s + 2, k, none⟩ (.float .f32 (Y.getD k 0))) (k + 1) := by
  obtain ⟨h1, h2, h3, h4⟩ := h
  refine ⟨fun j hj => ?_, fun j hj => ?_, fun j hj => ?_, by simpa using h4⟩
  · rw [World.cell?_setCell_other _ _ _ _ (by intro he; injection he with e1 _ _; omega)]
    exact h1 j hj
  · by_cases hjk : j = k
    · subst hjk
      refine ⟨?_, by have := (h2 j hj).2; go_simp⟩
      rw [World.cell?_setCell_same _ _ _ (h2 j hj).1, if_pos (by omega)]
    · refine ⟨?_, by have := (h2 j hj).2; go_simp⟩
      rw [World.cell?_setCell_other _ _ _ _ (by intro he; injection he with _ e2 _; exact hjk e2.symm), (h2 j hj).1]
      by_cases hlt : j < k
      · rw [if_pos hlt, if_pos (by omega)]
      · rw [if_neg hlt, if_neg (by omega)]
  · refine ⟨?_, by have := (h3 j hj).2; go_simp⟩
    rw [World.cell?_setCell_other _ _ _ _ (by intro he; injection he with e1 _ _; omega)]
    exact (h3 j hj).1
/-- Eight stores in a row, read back. -/
theorem eight_read {w : World} {g : Nat} {v0 v1 v2 v3 v4 v5 v6 v7 : Value} (h : ∀ j, j < 8 → ∃ u, w.cell? ⟨g, j, none⟩ = some u) :
    let W := ((((((((w.setCell ⟨g, 0, none⟩ v0).setCell ⟨g, 1, none⟩ v1).setCell ⟨g, 2, none⟩ v2).setCell ⟨g, 3, none⟩ v3).setCell ⟨g, 4, none⟩ v4).setCell ⟨g, 5, none⟩ v5).setCell ⟨g, 6, none⟩ v6).setCell ⟨g, 7, none⟩ v7)
    W.cell? ⟨g, 0, none⟩ = some v0 ∧ W.cell? ⟨g, 1, none⟩ = some v1 ∧ W.cell? ⟨g, 2, none⟩ = some v2 ∧ W.cell? ⟨g, 3, none⟩ = some v3 ∧ W.cell? ⟨g, 4, none⟩ = some v4 ∧ W.cell? ⟨g, 5, none⟩ = some v5 ∧ W.cell? ⟨g, 6, none⟩ = some v6 ∧ W.cell? ⟨g, 7, none⟩ = some v7 := by
  have ne : ∀ i j, i ≠ j → (⟨g, i, none⟩ : Addr) ≠ ⟨g, j, none⟩ := fun i j hij he => by injection he with _ e2 _; exact hij e2
  obtain ⟨u0, h0⟩ := h 0 (by omega)
  obtain ⟨u1, h1⟩ := h 1 (by omega)
  obtain ⟨u2, h2⟩ := h 2 (by omega)
  obtain ⟨u3, h3⟩ := h 3 (by omega)
  obtain ⟨u4, h4⟩ := h 4 (by omega)
  obtain ⟨u5, h5⟩ := h 5 (by omega)
  obtain ⟨u6, h6⟩ := h 6 (by omega)
  obtain ⟨u7, h7⟩ := h 7 (by omega)
  refine ⟨?_, ?_, ?_, ?_, ?_, ?_, ?_, ?_⟩
  · rw [World.cell?_setCell_other _ _ _ _ (ne 7 0 (by decide)), World.cell?_setCell_other _ _ _ _ (ne 6 0 (by decide)), World.cell?_setCell_other _ _ _ _ (ne 5 0 (by decide)), World.cell?_setCell_other _ _ _ _ (ne 4 0 (by decide)), World.cell?_setCell_other _ _ _ _ (ne 3 0 (by decide)), World.cell?_setCell_other _ _ _ _ (ne 2 0 (by decide)), World.cell?_setCell_other _ _ _ _ (ne 1 0 (by decide))]
    exact World.cell?_setCell_same _ _ _ (u := u0) (by exact h0)
  · rw [World.cell?_setCell_other _ _ _ _ (ne 7 1 (by decide)), World.cell?_setCell_other _ _ _ _ (ne 6 1 (by decide)), World.cell?_setCell_other _ _ _ _ (ne 5 1 (by decide)), World.cell?_setCell_other _ _ _ _ (ne 4 1 (by decide)), World.cell?_setCell_other _ _ _ _ (ne 3 1 (by decide)), World.cell?_setCell_other _ _ _ _ (ne 2 1 (by decide))]
    exact World.cell?_setCell_same _ _ _ (u := u1) (by rw [World.cell?_setCell_other _ _ _ _ (ne 0 1 (by decide))]; exact h1)
  · rw [World.cell?_setCell_other _ _ _ _ (ne 7 2 (by decide)), World.cell?_setCell_other _ _ _ _ (ne 6 2 (by decide)), World.cell?_setCell_other _ _ _ _ (ne 5 2 (by decide)), World.cell?_setCell_other _ _ _ _ (ne 4 2 (by decide)), World.cell?_setCell_other _ _ _ _ (ne 3 2 (by decide))]
    exact World.cell?_setCell_same _ _ _ (u := u2) (by rw [World.cell?_setCell_other _ _ _ _ (ne 1 2 (by decide)), World.cell?_setCell_other _ _ _ _ (ne 0 2 (by decide))]; exact h2)
  · rw [World.cell?_setCell_other _ _ _ _ (ne 7 3 (by decide)), World.cell?_setCell_other _ _ _ _ (ne 6 3 (by decide)), World.cell?_setCell_other _ _ _ _ (ne 5 3 (by decide)), World.cell?_setCell_other _ _ _ _ (ne 4 3 (by decide))]
    exact World.cell?_setCell_same _ _ _ (u := u3) (by rw [World.cell?_setCell_other _ _ _ _ (ne 2 3 (by decide)), World.cell?_setCell_other _ _ _ _ (ne 1 3 (by decide)), World.cell?_setCell_other _ _ _ _ (ne 0 3 (by decide))]; exact h3)
  · rw [World.cell?_setCell_other _ _ _ _ (ne 7 4 (by decide)), World.cell?_setCell_other _ _ _ _ (ne 6 4 (by decide)), World.cell?_setCell_other _ _ _ _ (ne 5 4 (by decide))]
    exact World.cell?_setCell_same _ _ _ (u := u4) (by rw [World.cell?_setCell_other _ _ _ _ (ne 3 4 (by decide)), World.cell?_setCell_other _ _ _ _ (ne 2 4 (by decide)), World.cell?_setCell_other _ _ _ _ (ne 1 4 (by decide)), World.cell?_setCell_other _ _ _ _ (ne 0 4 (by decide))]; exact h4)
  · rw [World.cell?_setCell_other _ _ _ _ (ne 7 5 (by decide)), World.cell?_setCell_other _ _ _ _ (ne 6 5 (by decide))]
    exact World.cell?_setCell_same _ _ _ (u := u5) (by rw [World.cell?_setCell_other _ _ _ _ (ne 4 5 (by decide)), World.cell?_setCell_other _ _ _ _ (ne 3 5 (by decide)), World.cell?_setCell_other _ _ _ _ (ne 2 5 (by decide)), World.cell?_setCell_other _ _ _ _ (ne 1 5 (by decide)), World.cell?_setCell_other _ _ _ _ (ne 0 5 (by decide))]; exact h5)
  · rw [World.cell?_setCell_other _ _ _ _ (ne 7 6 (by decide))]
    exact World.cell?_setCell_same _ _ _ (u := u6) (by rw [World.cell?_setCell_other _ _ _ _ (ne 5 6 (by decide)), World.cell?_setCell_other _ _ _ _ (ne 4 6 (by decide)), World.cell?_setCell_other _ _ _ _ (ne 3 6 (by decide)), World.cell?_setCell_other _ _ _ _ (ne 2 6 (by decide)), World.cell?_setCell_other _ _ _ _ (ne 1 6 (by decide)), World.cell?_setCell_other _ _ _ _ (ne 0 6 (by decide))]; exact h6)
  · exact World.cell?_setCell_same _ _ _ (u := u7) (by rw [World.cell?_setCell_other _ _ _ _ (ne 6 7 (by decide)), World.cell?_setCell_other _ _ _ _ (ne 5 7 (by decide)), World.cell?_setCell_other _ _ _ _ (ne 4 7 (by decide)), World.cell?_setCell_other _ _ _ _ (ne 3 7 (by decide)), World.cell?_setCell_other _ _ _ _ (ne 2 7 (by decide)), World.cell?_setCell_other _ _ _ _ (ne 1 7 (by decide)), World.cell?_setCell_other _ _ _ _ (ne 0 7 (by decide))]; exact h7)
attribute [local irreducible] World.setCell
set_option maxHeartbeats 8000000 in
theorem toA8_any (y0 y1 y2 y3 y4 y5 y6 y7 : Nat) (w : World) :
    Calls Try.prog 21 #[(.agg #[.float .f32 y0, .float .f32 y1, .float .f32 y2, .float .f32 y3, .float .f32 y4, .float .f32 y5, .float .f32 y6, .float .f32 y7])] w fun e w' => e = .returned (.agg #[.float .f32 y0, .float .f32 y1, .float .f32 y2, .float .f32 y3, .float .f32 y4, .float .f32 y5, .float .f32 y6, .float .f32 y7]) ∧ Below w.heap.size w w' := by
  go_enter Try.func21, Try.ntmps21
  go_wp2
  go_loopw [4] (fun i wr => ∃ k : Nat, ∃ z : Int, k ≤ 8 ∧ z = k ∧ i = .int .i64 z ∧ Hid (CopyAt [y0, y1, y2, y3, y4, y5, y6, y7] w.heap.size wr k) ∧ Below w.heap.size w wr) (fun i _ => 8 - (intOf i).toNat)
  case atStart =>
    refine ⟨0, 0, by omega, rfl, rfl, Lib.hid ⟨fun j hj => ?_, fun j hj => ?_, fun j hj => ?_, by simp⟩, by (repeat (first | with_reducible exact Below.refl _ _ | with_reducible refine bset ?_ (by first | (simp; done) | (simp; omega) | omega) _ | with_reducible refine balloc ?_ _ | with_reducible refine bdrewN ?_ _ | with_reducible refine bdrew ?_ | with_reducible refine bstep ?_ (by assumption)))⟩
    · have hj8 : j = 0 ∨ j = 1 ∨ j = 2 ∨ j = 3 ∨ j = 4 ∨ j = 5 ∨ j = 6 ∨ j = 7 := by omega
      rcases hj8 with rfl | rfl | rfl | rfl | rfl | rfl | rfl | rfl <;> go_simp
    · have hj8 : j = 0 ∨ j = 1 ∨ j = 2 ∨ j = 3 ∨ j = 4 ∨ j = 5 ∨ j = 6 ∨ j = 7 := by omega
      rcases hj8 with rfl | rfl | rfl | rfl | rfl | rfl | rfl | rfl <;> (constructor <;> go_simp)
    · have hj8 : j = 0 ∨ j = 1 ∨ j = 2 ∨ j = 3 ∨ j = 4 ∨ j = 5 ∨ j = 6 ∨ j = 7 := by omega
      rcases hj8 with rfl | rfl | rfl | rfl | rfl | rfl | rfl | rfl <;> (constructor <;> go_simp)
  case round =>
    obtain ⟨k, z, hk, hz, rfl, HC, hb⟩ := hrel
    have hk8 : k = 0 ∨ k = 1 ∨ k = 2 ∨ k = 3 ∨ k = 4 ∨ k = 5 ∨ k = 6 ∨ k = 7 ∨ k = 8 := by omega
    have hsz := HC.out.2.2.2
    rcases hk8 with rfl | rfl | rfl | rfl | rfl | rfl | rfl | rfl | rfl
    · obtain rfl : z = 0 := by simpa using hz
      clear hz hk
      have d0 : wr.cell? ⟨w.heap.size, 0, none⟩ = some (.float .f32 y0) := HC.out.1 0 (by omega)
      have x0 : wr.cell? ⟨w.heap.size + 2, 0, none⟩ = some (.float .f32 0) := (HC.out.2.1 0 (by omega)).1
      have f0 : wr.frozen? ⟨w.heap.size + 2, 0, none⟩ = false := (HC.out.2.1 0 (by omega)).2
      have HN : Hid (CopyAt [y0, y1, y2, y3, y4, y5, y6, y7] w.heap.size (wr.setCell ⟨w.heap.size + 2, 0, none⟩ (.float .f32 y0)) (0 + 1)) := Lib.hid (HC.out.set (by omega))
      go_wp2
      go_roundw
      case rel => exact ⟨0 + 1, 0 + 1, by omega, by simp, rfl, HN, bset hb (show w.heap.size ≤ w.heap.size + 2 by omega) _⟩
      case measure => simp [intOf]
    · obtain rfl : z = 1 := by simpa using hz
      clear hz hk
      have d0 : wr.cell? ⟨w.heap.size, 1, none⟩ = some (.float .f32 y1) := HC.out.1 1 (by omega)
      have x0 : wr.cell? ⟨w.heap.size + 2, 1, none⟩ = some (.float .f32 0) := (HC.out.2.1 1 (by omega)).1
      have f0 : wr.frozen? ⟨w.heap.size + 2, 1, none⟩ = false := (HC.out.2.1 1 (by omega)).2
      have HN : Hid (CopyAt [y0, y1, y2, y3, y4, y5, y6, y7] w.heap.size (wr.setCell ⟨w.heap.size + 2, 1, none⟩ (.float .f32 y1)) (1 + 1)) := Lib.hid (HC.out.set (by omega))
      go_wp2
      go_roundw
      case rel => exact ⟨1 + 1, 1 + 1, by omega, by simp, rfl, HN, bset hb (show w.heap.size ≤ w.heap.size + 2 by omega) _⟩
      case measure => simp [intOf]
    · obtain rfl : z = 2 := by simpa using hz
      clear hz hk
      have d0 : wr.cell? ⟨w.heap.size, 2, none⟩ = some (.float .f32 y2) := HC.out.1 2 (by omega)
      have x0 : wr.cell? ⟨w.heap.size + 2, 2, none⟩ = some (.float .f32 0) := (HC.out.2.1 2 (by omega)).1
      have f0 : wr.frozen? ⟨w.heap.size + 2, 2, none⟩ = false := (HC.out.2.1 2 (by omega)).2
      have HN : Hid (CopyAt [y0, y1, y2, y3, y4, y5, y6, y7] w.heap.size (wr.setCell ⟨w.heap.size + 2, 2, none⟩ (.float .f32 y2)) (2 + 1)) := Lib.hid (HC.out.set (by omega))
      go_wp2
      go_roundw
      case rel => exact ⟨2 + 1, 2 + 1, by omega, by simp, rfl, HN, bset hb (show w.heap.size ≤ w.heap.size + 2 by omega) _⟩
      case measure => simp [intOf]
    · obtain rfl : z = 3 := by simpa using hz
      clear hz hk
      have d0 : wr.cell? ⟨w.heap.size, 3, none⟩ = some (.float .f32 y3) := HC.out.1 3 (by omega)
      have x0 : wr.cell? ⟨w.heap.size + 2, 3, none⟩ = some (.float .f32 0) := (HC.out.2.1 3 (by omega)).1
      have f0 : wr.frozen? ⟨w.heap.size + 2, 3, none⟩ = false := (HC.out.2.1 3 (by omega)).2
      have HN : Hid (CopyAt [y0, y1, y2, y3, y4, y5, y6, y7] w.heap.size (wr.setCell ⟨w.heap.size + 2, 3, none⟩ (.float .f32 y3)) (3 + 1)) := Lib.hid (HC.out.set (by omega))
      go_wp2
      go_roundw
      case rel => exact ⟨3 + 1, 3 + 1, by omega, by simp, rfl, HN, bset hb (show w.heap.size ≤ w.heap.size + 2 by omega) _⟩
      case measure => simp [intOf]
    · obtain rfl : z = 4 := by simpa using hz
      clear hz hk
      have d0 : wr.cell? ⟨w.heap.size, 4, none⟩ = some (.float .f32 y4) := HC.out.1 4 (by omega)
      have x0 : wr.cell? ⟨w.heap.size + 2, 4, none⟩ = some (.float .f32 0) := (HC.out.2.1 4 (by omega)).1
      have f0 : wr.frozen? ⟨w.heap.size + 2, 4, none⟩ = false := (HC.out.2.1 4 (by omega)).2
      have HN : Hid (CopyAt [y0, y1, y2, y3, y4, y5, y6, y7] w.heap.size (wr.setCell ⟨w.heap.size + 2, 4, none⟩ (.float .f32 y4)) (4 + 1)) := Lib.hid (HC.out.set (by omega))
      go_wp2
      go_roundw
      case rel => exact ⟨4 + 1, 4 + 1, by omega, by simp, rfl, HN, bset hb (show w.heap.size ≤ w.heap.size + 2 by omega) _⟩
      case measure => simp [intOf]
    · obtain rfl : z = 5 := by simpa using hz
      clear hz hk
      have d0 : wr.cell? ⟨w.heap.size, 5, none⟩ = some (.float .f32 y5) := HC.out.1 5 (by omega)
      have x0 : wr.cell? ⟨w.heap.size + 2, 5, none⟩ = some (.float .f32 0) := (HC.out.2.1 5 (by omega)).1
      have f0 : wr.frozen? ⟨w.heap.size + 2, 5, none⟩ = false := (HC.out.2.1 5 (by omega)).2
      have HN : Hid (CopyAt [y0, y1, y2, y3, y4, y5, y6, y7] w.heap.size (wr.setCell ⟨w.heap.size + 2, 5, none⟩ (.float .f32 y5)) (5 + 1)) := Lib.hid (HC.out.set (by omega))
      go_wp2
      go_roundw
      case rel => exact ⟨5 + 1, 5 + 1, by omega, by simp, rfl, HN, bset hb (show w.heap.size ≤ w.heap.size + 2 by omega) _⟩
      case measure => simp [intOf]
    · obtain rfl : z = 6 := by simpa using hz
      clear hz hk
      have d0 : wr.cell? ⟨w.heap.size, 6, none⟩ = some (.float .f32 y6) := HC.out.1 6 (by omega)
      have x0 : wr.cell? ⟨w.heap.size + 2, 6, none⟩ = some (.float .f32 0) := (HC.out.2.1 6 (by omega)).1
      have f0 : wr.frozen? ⟨w.heap.size + 2, 6, none⟩ = false := (HC.out.2.1 6 (by omega)).2
      have HN : Hid (CopyAt [y0, y1, y2, y3, y4, y5, y6, y7] w.heap.size (wr.setCell ⟨w.heap.size + 2, 6, none⟩ (.float .f32 y6)) (6 + 1)) := Lib.hid (HC.out.set (by omega))
      go_wp2
      go_roundw
      case rel => exact ⟨6 + 1, 6 + 1, by omega, by simp, rfl, HN, bset hb (show w.heap.size ≤ w.heap.size + 2 by omega) _⟩
      case measure => simp [intOf]
    · obtain rfl : z = 7 := by simpa using hz
      clear hz hk
      have d0 : wr.cell? ⟨w.heap.size, 7, none⟩ = some (.float .f32 y7) := HC.out.1 7 (by omega)
      have x0 : wr.cell? ⟨w.heap.size + 2, 7, none⟩ = some (.float .f32 0) := (HC.out.2.1 7 (by omega)).1
      have f0 : wr.frozen? ⟨w.heap.size + 2, 7, none⟩ = false := (HC.out.2.1 7 (by omega)).2
      have HN : Hid (CopyAt [y0, y1, y2, y3, y4, y5, y6, y7] w.heap.size (wr.setCell ⟨w.heap.size + 2, 7, none⟩ (.float .f32 y7)) (7 + 1)) := Lib.hid (HC.out.set (by omega))
      go_wp2
      go_roundw
      case rel => exact ⟨7 + 1, 7 + 1, by omega, by simp, rfl, HN, bset hb (show w.heap.size ≤ w.heap.size + 2 by omega) _⟩
      case measure => simp [intOf]
    · obtain rfl : z = 8 := by simpa using hz
      clear hz hk
      have e0 : wr.cell? ⟨w.heap.size + 2, 0, none⟩ = some (.float .f32 y0) := (HC.out.2.1 0 (by omega)).1
      have x0 : wr.cell? ⟨w.heap.size + 1, 0, none⟩ = some (.float .f32 0) := (HC.out.2.2.1 0 (by omega)).1
      have f0 : wr.frozen? ⟨w.heap.size + 1, 0, none⟩ = false := (HC.out.2.2.1 0 (by omega)).2
      have e1 : wr.cell? ⟨w.heap.size + 2, 1, none⟩ = some (.float .f32 y1) := (HC.out.2.1 1 (by omega)).1
      have x1 : wr.cell? ⟨w.heap.size + 1, 1, none⟩ = some (.float .f32 0) := (HC.out.2.2.1 1 (by omega)).1
      have f1 : wr.frozen? ⟨w.heap.size + 1, 1, none⟩ = false := (HC.out.2.2.1 1 (by omega)).2
      have e2 : wr.cell? ⟨w.heap.size + 2, 2, none⟩ = some (.float .f32 y2) := (HC.out.2.1 2 (by omega)).1
      have x2 : wr.cell? ⟨w.heap.size + 1, 2, none⟩ = some (.float .f32 0) := (HC.out.2.2.1 2 (by omega)).1
      have f2 : wr.frozen? ⟨w.heap.size + 1, 2, none⟩ = false := (HC.out.2.2.1 2 (by omega)).2
      have e3 : wr.cell? ⟨w.heap.size + 2, 3, none⟩ = some (.float .f32 y3) := (HC.out.2.1 3 (by omega)).1
      have x3 : wr.cell? ⟨w.heap.size + 1, 3, none⟩ = some (.float .f32 0) := (HC.out.2.2.1 3 (by omega)).1
      have f3 : wr.frozen? ⟨w.heap.size + 1, 3, none⟩ = false := (HC.out.2.2.1 3 (by omega)).2
      have e4 : wr.cell? ⟨w.heap.size + 2, 4, none⟩ = some (.float .f32 y4) := (HC.out.2.1 4 (by omega)).1
      have x4 : wr.cell? ⟨w.heap.size + 1, 4, none⟩ = some (.float .f32 0) := (HC.out.2.2.1 4 (by omega)).1
      have f4 : wr.frozen? ⟨w.heap.size + 1, 4, none⟩ = false := (HC.out.2.2.1 4 (by omega)).2
      have e5 : wr.cell? ⟨w.heap.size + 2, 5, none⟩ = some (.float .f32 y5) := (HC.out.2.1 5 (by omega)).1
      have x5 : wr.cell? ⟨w.heap.size + 1, 5, none⟩ = some (.float .f32 0) := (HC.out.2.2.1 5 (by omega)).1
      have f5 : wr.frozen? ⟨w.heap.size + 1, 5, none⟩ = false := (HC.out.2.2.1 5 (by omega)).2
      have e6 : wr.cell? ⟨w.heap.size + 2, 6, none⟩ = some (.float .f32 y6) := (HC.out.2.1 6 (by omega)).1
      have x6 : wr.cell? ⟨w.heap.size + 1, 6, none⟩ = some (.float .f32 0) := (HC.out.2.2.1 6 (by omega)).1
      have f6 : wr.frozen? ⟨w.heap.size + 1, 6, none⟩ = false := (HC.out.2.2.1 6 (by omega)).2
      have e7 : wr.cell? ⟨w.heap.size + 2, 7, none⟩ = some (.float .f32 y7) := (HC.out.2.1 7 (by omega)).1
      have x7 : wr.cell? ⟨w.heap.size + 1, 7, none⟩ = some (.float .f32 0) := (HC.out.2.2.1 7 (by omega)).1
      have f7 : wr.frozen? ⟨w.heap.size + 1, 7, none⟩ = false := (HC.out.2.2.1 7 (by omega)).2
      have HR8 := eight_read (w := wr) (g := w.heap.size + 1) (v0 := .float .f32 y0) (v1 := .float .f32 y1) (v2 := .float .f32 y2) (v3 := .float .f32 y3) (v4 := .float .f32 y4) (v5 := .float .f32 y5) (v6 := .float .f32 y6) (v7 := .float .f32 y7) (fun j hj => ⟨_, (HC.out.2.2.1 j hj).1⟩)
      have hB8 : Below w.heap.size w ((((((((wr.setCell ⟨w.heap.size + 1, 0, none⟩ (.float .f32 y0)).setCell ⟨w.heap.size + 1, 1, none⟩ (.float .f32 y1)).setCell ⟨w.heap.size + 1, 2, none⟩ (.float .f32 y2)).setCell ⟨w.heap.size + 1, 3, none⟩ (.float .f32 y3)).setCell ⟨w.heap.size + 1, 4, none⟩ (.float .f32 y4)).setCell ⟨w.heap.size + 1, 5, none⟩ (.float .f32 y5)).setCell ⟨w.heap.size + 1, 6, none⟩ (.float .f32 y6)).setCell ⟨w.heap.size + 1, 7, none⟩ (.float .f32 y7)) := by
        repeat (first | exact hb | refine bset ?_ (show w.heap.size ≤ w.heap.size + 1 by omega) _)
      have HH8 := Lib.hid (And.intro HR8 hB8)
      clear HR8 hB8
      go_wp2
      clear e0 e1 e2 e3 e4 e5 e6 e7 f0 f1 f2 f3 f4 f5 f6 f7 x0 x1 x2 x3 x4 x5 x6 x7 HC hsz
      have HK := HH8.out
      clear HH8
      generalize ((((((((wr.setCell ⟨w.heap.size + 1, 0, none⟩ (.float .f32 y0)).setCell ⟨w.heap.size + 1, 1, none⟩ (.float .f32 y1)).setCell ⟨w.heap.size + 1, 2, none⟩ (.float .f32 y2)).setCell ⟨w.heap.size + 1, 3, none⟩ (.float .f32 y3)).setCell ⟨w.heap.size + 1, 4, none⟩ (.float .f32 y4)).setCell ⟨w.heap.size + 1, 5, none⟩ (.float .f32 y5)).setCell ⟨w.heap.size + 1, 6, none⟩ (.float .f32 y6)).setCell ⟨w.heap.size + 1, 7, none⟩ (.float .f32 y7)) = W8 at HK ⊢
      obtain ⟨⟨r0, r1, r2, r3, r4, r5, r6, r7⟩, hB8⟩ := HK
      refine bodyPost_ret (v := (.agg #[.float .f32 y0, .float .f32 y1, .float .f32 y2, .float .f32 y3, .float .f32 y4, .float .f32 y5, .float .f32 y6, .float .f32 y7])) (by simp only [results, Try.results21]; go_simp) rfl ⟨rfl, hB8⟩
end Go.Proofs.Ytiipnbccfbielaa
