/- All swings of eight readings: both sides. -/
import Derived.Test.YtiipnbccfbielaaSwA
namespace Go.Proofs.Ytiipnbccfbielaa
open Go.RowKit Ieee
open Go.Proofs.YtiipnbccfbielaaW.PrintWords
set_option maxRecDepth 100000
attribute [local irreducible] wpRel

theorem swing_spec_all (n : Nat) (hn : n < 8) (b y0 y1 y2 y3 y4 y5 y6 y7 : Nat) (w : World) (hc : ∀ j, j < 8 → w.cell? ⟨b, j, none⟩ = some (.float .f32 ([y0, y1, y2, y3, y4, y5, y6, y7].getD j 0))) :
    Calls Try.prog 68 #[.pointer (some ⟨b, 0, none⟩), .int .i64 (n : Int)] w (CQ (swi (f8 y0 y1 y2 y3 y4 y5 y6 y7) n 8).1 (swi (f8 y0 y1 y2 y3 y4 y5 y6 y7) n 8).2 w) := by
  have h : n = 0 ∨ n = 1 ∨ n = 2 ∨ n = 3 ∨ n = 4 ∨ n = 5 ∨ n = 6 ∨ n = 7 := by omega
  rcases h with rfl | rfl | rfl | rfl | rfl | rfl | rfl | rfl
  · exact swing_spec_0 b y0 y1 y2 y3 y4 y5 y6 y7 w (hc 0 (by omega)) (hc 1 (by omega)) (hc 2 (by omega)) (hc 3 (by omega)) (hc 4 (by omega)) (hc 5 (by omega)) (hc 6 (by omega)) (hc 7 (by omega))
  · exact swing_spec_1 b y0 y1 y2 y3 y4 y5 y6 y7 w (hc 0 (by omega)) (hc 1 (by omega)) (hc 2 (by omega)) (hc 3 (by omega)) (hc 4 (by omega)) (hc 5 (by omega)) (hc 6 (by omega)) (hc 7 (by omega))
  · exact swing_spec_2 b y0 y1 y2 y3 y4 y5 y6 y7 w (hc 0 (by omega)) (hc 1 (by omega)) (hc 2 (by omega)) (hc 3 (by omega)) (hc 4 (by omega)) (hc 5 (by omega)) (hc 6 (by omega)) (hc 7 (by omega))
  · exact swing_spec_3 b y0 y1 y2 y3 y4 y5 y6 y7 w (hc 0 (by omega)) (hc 1 (by omega)) (hc 2 (by omega)) (hc 3 (by omega)) (hc 4 (by omega)) (hc 5 (by omega)) (hc 6 (by omega)) (hc 7 (by omega))
  · exact swing_spec_4 b y0 y1 y2 y3 y4 y5 y6 y7 w (hc 0 (by omega)) (hc 1 (by omega)) (hc 2 (by omega)) (hc 3 (by omega)) (hc 4 (by omega)) (hc 5 (by omega)) (hc 6 (by omega)) (hc 7 (by omega))
  · exact swing_spec_5 b y0 y1 y2 y3 y4 y5 y6 y7 w (hc 0 (by omega)) (hc 1 (by omega)) (hc 2 (by omega)) (hc 3 (by omega)) (hc 4 (by omega)) (hc 5 (by omega)) (hc 6 (by omega)) (hc 7 (by omega))
  · exact swing_spec_6 b y0 y1 y2 y3 y4 y5 y6 y7 w (hc 0 (by omega)) (hc 1 (by omega)) (hc 2 (by omega)) (hc 3 (by omega)) (hc 4 (by omega)) (hc 5 (by omega)) (hc 6 (by omega)) (hc 7 (by omega))
  · exact swing_spec_7 b y0 y1 y2 y3 y4 y5 y6 y7 w (hc 0 (by omega)) (hc 1 (by omega)) (hc 2 (by omega)) (hc 3 (by omega)) (hc 4 (by omega)) (hc 5 (by omega)) (hc 6 (by omega)) (hc 7 (by omega))
/-- What is told of all swings: values and the code. -/
def outSw (f : Nat → Nat) : (Nat → Nat × Nat) × Int := if rdK f 8 = true then (fun n => swi f n 8, 0) else (fun _ => (0, 0), 2)
def SwQ (o : (Nat → Nat × Nat) × Int) (w : World) (e : Ending) (w' : World) : Prop :=
  ∃ R I : Nat → Nat, e = .returned (.tuple #[(.agg #[.complex .f32 (R 0) (I 0), .complex .f32 (R 1) (I 1), .complex .f32 (R 2) (I 2), .complex .f32 (R 3) (I 3), .complex .f32 (R 4) (I 4), .complex .f32 (R 5) (I 5), .complex .f32 (R 6) (I 6), .complex .f32 (R 7) (I 7)]), .int .i64 o.2]) ∧ (∀ j, j < 8 → FV (R j) (o.1 j).1 ∧ FV (I j) (o.1 j).2) ∧ Below w.heap.size w w'
/-- Behind k rounds: block s holds the readings, s + 1 the result's noughts, s + 2 the swings. -/
def SwAt (Y : List Nat) (s : Nat) (w : World) (R I : Nat → Nat) : Prop :=
  (∀ j, j < 8 → w.cell? ⟨s, j, none⟩ = some (.float .f32 (Y.getD j 0))) ∧
  (∀ j, j < 8 → w.cell? ⟨s + 2, j, none⟩ = some (.complex .f32 (R j) (I j)) ∧ w.frozen? ⟨s + 2, j, none⟩ = false) ∧
  (∀ j, j < 8 → w.cell? ⟨s + 1, j, none⟩ = some (.complex .f32 0 0) ∧ w.frozen? ⟨s + 1, j, none⟩ = false) ∧ s + 2 < w.heap.size
theorem SwAt.below {Y : List Nat} {s : Nat} {w W : World} {R I : Nat → Nat} (h : SwAt Y s w R I) (k : Below w.heap.size w W) : SwAt Y s W R I := by
  obtain ⟨h1, h2, h3, h4⟩ := h
  exact ⟨fun j hj => (bc k s j (by omega)).trans (h1 j hj), fun j hj => ⟨(bc k (s + 2) j (by omega)).trans (h2 j hj).1, (bf k (s + 2) j (by omega)).trans (h2 j hj).2⟩, fun j hj => ⟨(bc k (s + 1) j (by omega)).trans (h3 j hj).1, (bf k (s + 1) j (by omega)).trans (h3 j hj).2⟩, Nat.lt_of_lt_of_le h4 k.size⟩
theorem SwAt.set {Y : List Nat} {s : Nat} {w : World} {R I : Nat → Nat} (h : SwAt Y s w R I) {k : Nat} (hk : k < 8) (r i : Nat) : SwAt Y s (w.setCell ⟨s + 2, k, none⟩ (.complex .f32 r i)) (fun j => if j = k then r else R j) (fun j => if j = k then i else I j) := by
  obtain ⟨h1, h2, h3, h4⟩ := h
  refine ⟨fun j hj => ?_, fun j hj => ?_, fun j hj => ?_, by simpa using h4⟩
  · rw [World.cell?_setCell_other _ _ _ _ (by intro he; injection he with e1 _ _; omega)]
    exact h1 j hj
  · by_cases hjk : j = k
    · subst hjk
      refine ⟨?_, by have := (h2 j hj).2; go_simp⟩
      rw [World.cell?_setCell_same _ _ _ (h2 j hj).1]
      dsimp only
      rw [if_pos rfl, if_pos rfl]
    · refine ⟨?_, by have := (h2 j hj).2; go_simp⟩
      rw [World.cell?_setCell_other _ _ _ _ (by intro he; injection he with _ e2 _; exact hjk e2.symm), (h2 j hj).1]
      dsimp only
      rw [if_neg hjk, if_neg hjk]
  · refine ⟨?_, by have := (h3 j hj).2; go_simp⟩
    rw [World.cell?_setCell_other _ _ _ _ (by intro he; injection he with e1 _ _; omega)]
    exact (h3 j hj).1
attribute [local irreducible] World.setCell
set_option maxHeartbeats 8000000 in
theorem swingsOf_spec (y0 y1 y2 y3 y4 y5 y6 y7 : Nat) (l0 : y0 < 4294967296) (l1 : y1 < 4294967296) (l2 : y2 < 4294967296) (l3 : y3 < 4294967296) (l4 : y4 < 4294967296) (l5 : y5 < 4294967296) (l6 : y6 < 4294967296) (l7 : y7 < 4294967296) (w : World) :
    Calls Try.prog 20 #[(.agg #[.float .f32 y0, .float .f32 y1, .float .f32 y2, .float .f32 y3, .float .f32 y4, .float .f32 y5, .float .f32 y6, .float .f32 y7])] w (SwQ (outSw (f8 y0 y1 y2 y3 y4 y5 y6 y7)) w) := by
  have b0 : Below w.heap.size w (((w.alloc (.cells #[.float .f32 y0, .float .f32 y1, .float .f32 y2, .float .f32 y3, .float .f32 y4, .float .f32 y5, .float .f32 y6, .float .f32 y7] 36)).alloc (.cells #[.complex .f32 0 0, .complex .f32 0 0, .complex .f32 0 0, .complex .f32 0 0, .complex .f32 0 0, .complex .f32 0 0, .complex .f32 0 0, .complex .f32 0 0] 37)).alloc (.cells #[.complex .f32 0 0, .complex .f32 0 0, .complex .f32 0 0, .complex .f32 0 0, .complex .f32 0 0, .complex .f32 0 0, .complex .f32 0 0, .complex .f32 0 0] 37)) := by (repeat (first | with_reducible exact Below.refl _ _ | with_reducible refine bset ?_ (by first | (simp; done) | (simp; omega) | omega) _ | with_reducible refine balloc ?_ _ | with_reducible refine bdrewN ?_ _ | with_reducible refine bdrew ?_ | with_reducible refine bstep ?_ (by assumption)))
  have h0 : SwAt [y0, y1, y2, y3, y4, y5, y6, y7] w.heap.size (((w.alloc (.cells #[.float .f32 y0, .float .f32 y1, .float .f32 y2, .float .f32 y3, .float .f32 y4, .float .f32 y5, .float .f32 y6, .float .f32 y7] 36)).alloc (.cells #[.complex .f32 0 0, .complex .f32 0 0, .complex .f32 0 0, .complex .f32 0 0, .complex .f32 0 0, .complex .f32 0 0, .complex .f32 0 0, .complex .f32 0 0] 37)).alloc (.cells #[.complex .f32 0 0, .complex .f32 0 0, .complex .f32 0 0, .complex .f32 0 0, .complex .f32 0 0, .complex .f32 0 0, .complex .f32 0 0, .complex .f32 0 0] 37)) (fun _ => 0) (fun _ => 0) := by
    refine ⟨fun j hj => ?_, fun j hj => ?_, fun j hj => ?_, by simp⟩
    · have hj8 : j = 0 ∨ j = 1 ∨ j = 2 ∨ j = 3 ∨ j = 4 ∨ j = 5 ∨ j = 6 ∨ j = 7 := by omega
      rcases hj8 with rfl | rfl | rfl | rfl | rfl | rfl | rfl | rfl <;> go_simp
    · have hj8 : j = 0 ∨ j = 1 ∨ j = 2 ∨ j = 3 ∨ j = 4 ∨ j = 5 ∨ j = 6 ∨ j = 7 := by omega
      rcases hj8 with rfl | rfl | rfl | rfl | rfl | rfl | rfl | rfl <;> (constructor <;> go_simp)
    · have hj8 : j = 0 ∨ j = 1 ∨ j = 2 ∨ j = 3 ∨ j = 4 ∨ j = 5 ∨ j = 6 ∨ j = 7 := by omega
      rcases hj8 with rfl | rfl | rfl | rfl | rfl | rfl | rfl | rfl <;> (constructor <;> go_simp)
  have H0 := Lib.hid h0
  have hbz := fun (w : World) => run_build (P := Try.prog) w 37 #[] #[.complex .f32 0 0, .complex .f32 0 0, .complex .f32 0 0, .complex .f32 0 0, .complex .f32 0 0, .complex .f32 0 0, .complex .f32 0 0, .complex .f32 0 0] (by kernel_rfl)
  have HT := Lib.hid (l07Readings_any w.heap.size y0 y1 y2 y3 y4 y5 y6 y7 l0 l1 l2 l3 l4 l5 l6 l7 _ (h0.1 0 (by omega)) (h0.1 1 (by omega)) (h0.1 2 (by omega)) (h0.1 3 (by omega)) (h0.1 4 (by omega)) (h0.1 5 (by omega)) (h0.1 6 (by omega)) (h0.1 7 (by omega)))
  clear h0 l0 l1 l2 l3 l4 l5 l6 l7
  cases hr : rdK (f8 y0 y1 y2 y3 y4 y5 y6 y7) 8
  · have ho : outSw (f8 y0 y1 y2 y3 y4 y5 y6 y7) = (fun _ => (0, 0), 2) := by unfold outSw; rw [hr]; rfl
    rw [hr] at HT
    rw [ho]
    clear ho hr
    go_enter Try.func20, Try.ntmps20
    go_wp2_with fail
    go_at_call 67
    refine (HT.out).mono ?_
    rintro e w1 ⟨rfl, hb1⟩
    have hb2 := bstep b0 hb1
    have HC := Lib.hid (H0.out.below hb1)
    have hsz := HC.out.2.2.2
    clear H0 HT hb1 b0
    have e0 : w1.cell? ⟨w.heap.size + 2, 0, none⟩ = some (.complex .f32 ((fun _ => 0 : Nat → Nat) 0) ((fun _ => 0 : Nat → Nat) 0)) := (HC.out.2.1 0 (by omega)).1
    have x0 : w1.cell? ⟨w.heap.size + 1, 0, none⟩ = some (.complex .f32 0 0) := (HC.out.2.2.1 0 (by omega)).1
    have f0 : w1.frozen? ⟨w.heap.size + 1, 0, none⟩ = false := (HC.out.2.2.1 0 (by omega)).2
    have e1 : w1.cell? ⟨w.heap.size + 2, 1, none⟩ = some (.complex .f32 ((fun _ => 0 : Nat → Nat) 1) ((fun _ => 0 : Nat → Nat) 1)) := (HC.out.2.1 1 (by omega)).1
    have x1 : w1.cell? ⟨w.heap.size + 1, 1, none⟩ = some (.complex .f32 0 0) := (HC.out.2.2.1 1 (by omega)).1
    have f1 : w1.frozen? ⟨w.heap.size + 1, 1, none⟩ = false := (HC.out.2.2.1 1 (by omega)).2
    have e2 : w1.cell? ⟨w.heap.size + 2, 2, none⟩ = some (.complex .f32 ((fun _ => 0 : Nat → Nat) 2) ((fun _ => 0 : Nat → Nat) 2)) := (HC.out.2.1 2 (by omega)).1
    have x2 : w1.cell? ⟨w.heap.size + 1, 2, none⟩ = some (.complex .f32 0 0) := (HC.out.2.2.1 2 (by omega)).1
    have f2 : w1.frozen? ⟨w.heap.size + 1, 2, none⟩ = false := (HC.out.2.2.1 2 (by omega)).2
    have e3 : w1.cell? ⟨w.heap.size + 2, 3, none⟩ = some (.complex .f32 ((fun _ => 0 : Nat → Nat) 3) ((fun _ => 0 : Nat → Nat) 3)) := (HC.out.2.1 3 (by omega)).1
    have x3 : w1.cell? ⟨w.heap.size + 1, 3, none⟩ = some (.complex .f32 0 0) := (HC.out.2.2.1 3 (by omega)).1
    have f3 : w1.frozen? ⟨w.heap.size + 1, 3, none⟩ = false := (HC.out.2.2.1 3 (by omega)).2
    have e4 : w1.cell? ⟨w.heap.size + 2, 4, none⟩ = some (.complex .f32 ((fun _ => 0 : Nat → Nat) 4) ((fun _ => 0 : Nat → Nat) 4)) := (HC.out.2.1 4 (by omega)).1
    have x4 : w1.cell? ⟨w.heap.size + 1, 4, none⟩ = some (.complex .f32 0 0) := (HC.out.2.2.1 4 (by omega)).1
    have f4 : w1.frozen? ⟨w.heap.size + 1, 4, none⟩ = false := (HC.out.2.2.1 4 (by omega)).2
    have e5 : w1.cell? ⟨w.heap.size + 2, 5, none⟩ = some (.complex .f32 ((fun _ => 0 : Nat → Nat) 5) ((fun _ => 0 : Nat → Nat) 5)) := (HC.out.2.1 5 (by omega)).1
    have x5 : w1.cell? ⟨w.heap.size + 1, 5, none⟩ = some (.complex .f32 0 0) := (HC.out.2.2.1 5 (by omega)).1
    have f5 : w1.frozen? ⟨w.heap.size + 1, 5, none⟩ = false := (HC.out.2.2.1 5 (by omega)).2
    have e6 : w1.cell? ⟨w.heap.size + 2, 6, none⟩ = some (.complex .f32 ((fun _ => 0 : Nat → Nat) 6) ((fun _ => 0 : Nat → Nat) 6)) := (HC.out.2.1 6 (by omega)).1
    have x6 : w1.cell? ⟨w.heap.size + 1, 6, none⟩ = some (.complex .f32 0 0) := (HC.out.2.2.1 6 (by omega)).1
    have f6 : w1.frozen? ⟨w.heap.size + 1, 6, none⟩ = false := (HC.out.2.2.1 6 (by omega)).2
    have e7 : w1.cell? ⟨w.heap.size + 2, 7, none⟩ = some (.complex .f32 ((fun _ => 0 : Nat → Nat) 7) ((fun _ => 0 : Nat → Nat) 7)) := (HC.out.2.1 7 (by omega)).1
    have x7 : w1.cell? ⟨w.heap.size + 1, 7, none⟩ = some (.complex .f32 0 0) := (HC.out.2.2.1 7 (by omega)).1
    have f7 : w1.frozen? ⟨w.heap.size + 1, 7, none⟩ = false := (HC.out.2.2.1 7 (by omega)).2
    have HR8 := eight_read (w := w1) (g := w.heap.size + 1) (v0 := .complex .f32 ((fun _ => 0 : Nat → Nat) 0) ((fun _ => 0 : Nat → Nat) 0)) (v1 := .complex .f32 ((fun _ => 0 : Nat → Nat) 1) ((fun _ => 0 : Nat → Nat) 1)) (v2 := .complex .f32 ((fun _ => 0 : Nat → Nat) 2) ((fun _ => 0 : Nat → Nat) 2)) (v3 := .complex .f32 ((fun _ => 0 : Nat → Nat) 3) ((fun _ => 0 : Nat → Nat) 3)) (v4 := .complex .f32 ((fun _ => 0 : Nat → Nat) 4) ((fun _ => 0 : Nat → Nat) 4)) (v5 := .complex .f32 ((fun _ => 0 : Nat → Nat) 5) ((fun _ => 0 : Nat → Nat) 5)) (v6 := .complex .f32 ((fun _ => 0 : Nat → Nat) 6) ((fun _ => 0 : Nat → Nat) 6)) (v7 := .complex .f32 ((fun _ => 0 : Nat → Nat) 7) ((fun _ => 0 : Nat → Nat) 7)) (fun j hj => ⟨_, (HC.out.2.2.1 j hj).1⟩)
    have hB8 : Below w.heap.size w ((((((((w1.setCell ⟨w.heap.size + 1, 0, none⟩ (.complex .f32 ((fun _ => 0 : Nat → Nat) 0) ((fun _ => 0 : Nat → Nat) 0))).setCell ⟨w.heap.size + 1, 1, none⟩ (.complex .f32 ((fun _ => 0 : Nat → Nat) 1) ((fun _ => 0 : Nat → Nat) 1))).setCell ⟨w.heap.size + 1, 2, none⟩ (.complex .f32 ((fun _ => 0 : Nat → Nat) 2) ((fun _ => 0 : Nat → Nat) 2))).setCell ⟨w.heap.size + 1, 3, none⟩ (.complex .f32 ((fun _ => 0 : Nat → Nat) 3) ((fun _ => 0 : Nat → Nat) 3))).setCell ⟨w.heap.size + 1, 4, none⟩ (.complex .f32 ((fun _ => 0 : Nat → Nat) 4) ((fun _ => 0 : Nat → Nat) 4))).setCell ⟨w.heap.size + 1, 5, none⟩ (.complex .f32 ((fun _ => 0 : Nat → Nat) 5) ((fun _ => 0 : Nat → Nat) 5))).setCell ⟨w.heap.size + 1, 6, none⟩ (.complex .f32 ((fun _ => 0 : Nat → Nat) 6) ((fun _ => 0 : Nat → Nat) 6))).setCell ⟨w.heap.size + 1, 7, none⟩ (.complex .f32 ((fun _ => 0 : Nat → Nat) 7) ((fun _ => 0 : Nat → Nat) 7))) := by
      repeat (first | exact hb2 | refine bset ?_ (show w.heap.size ≤ w.heap.size + 1 by omega) _)
    have HH8 := Lib.hid (And.intro HR8 hB8)
    clear HR8 hB8
    go_wp2
    clear e0 e1 e2 e3 e4 e5 e6 e7 f0 f1 f2 f3 f4 f5 f6 f7 x0 x1 x2 x3 x4 x5 x6 x7
    have HK := HH8.out
    clear HH8
    generalize ((((((((w1.setCell ⟨w.heap.size + 1, 0, none⟩ (.complex .f32 ((fun _ => 0 : Nat → Nat) 0) ((fun _ => 0 : Nat → Nat) 0))).setCell ⟨w.heap.size + 1, 1, none⟩ (.complex .f32 ((fun _ => 0 : Nat → Nat) 1) ((fun _ => 0 : Nat → Nat) 1))).setCell ⟨w.heap.size + 1, 2, none⟩ (.complex .f32 ((fun _ => 0 : Nat → Nat) 2) ((fun _ => 0 : Nat → Nat) 2))).setCell ⟨w.heap.size + 1, 3, none⟩ (.complex .f32 ((fun _ => 0 : Nat → Nat) 3) ((fun _ => 0 : Nat → Nat) 3))).setCell ⟨w.heap.size + 1, 4, none⟩ (.complex .f32 ((fun _ => 0 : Nat → Nat) 4) ((fun _ => 0 : Nat → Nat) 4))).setCell ⟨w.heap.size + 1, 5, none⟩ (.complex .f32 ((fun _ => 0 : Nat → Nat) 5) ((fun _ => 0 : Nat → Nat) 5))).setCell ⟨w.heap.size + 1, 6, none⟩ (.complex .f32 ((fun _ => 0 : Nat → Nat) 6) ((fun _ => 0 : Nat → Nat) 6))).setCell ⟨w.heap.size + 1, 7, none⟩ (.complex .f32 ((fun _ => 0 : Nat → Nat) 7) ((fun _ => 0 : Nat → Nat) 7))) = W8 at HK ⊢
    obtain ⟨⟨r0, r1, r2, r3, r4, r5, r6, r7⟩, hB8⟩ := HK
    refine bodyPost_ret (v := .tuple #[(.agg #[.complex .f32 ((fun _ => 0 : Nat → Nat) 0) ((fun _ => 0 : Nat → Nat) 0), .complex .f32 ((fun _ => 0 : Nat → Nat) 1) ((fun _ => 0 : Nat → Nat) 1), .complex .f32 ((fun _ => 0 : Nat → Nat) 2) ((fun _ => 0 : Nat → Nat) 2), .complex .f32 ((fun _ => 0 : Nat → Nat) 3) ((fun _ => 0 : Nat → Nat) 3), .complex .f32 ((fun _ => 0 : Nat → Nat) 4) ((fun _ => 0 : Nat → Nat) 4), .complex .f32 ((fun _ => 0 : Nat → Nat) 5) ((fun _ => 0 : Nat → Nat) 5), .complex .f32 ((fun _ => 0 : Nat → Nat) 6) ((fun _ => 0 : Nat → Nat) 6), .complex .f32 ((fun _ => 0 : Nat → Nat) 7) ((fun _ => 0 : Nat → Nat) 7)]), .int .i64 2]) (by simp only [results, Try.results20]; go_simp) rfl ⟨(fun _ => 0 : Nat → Nat), (fun _ => 0 : Nat → Nat), rfl, fun j _ => ⟨FV_zero, FV_zero⟩, hB8⟩
  · have ho : outSw (f8 y0 y1 y2 y3 y4 y5 y6 y7) = (fun n => swi (f8 y0 y1 y2 y3 y4 y5 y6 y7) n 8, 0) := by unfold outSw; rw [hr]; rfl
    rw [hr] at HT
    rw [ho]
    clear ho hr
    go_enter Try.func20, Try.ntmps20
    go_wp2_with fail
    go_at_call 67
    refine (HT.out).mono ?_
    rintro e w1 ⟨rfl, hb1⟩
    have hb2 := bstep b0 hb1
    have HC := Lib.hid (H0.out.below hb1)
    clear H0 HT hb1 b0
    go_wp2
    go_loopw [5] (fun i wr => ∃ k : Nat, ∃ R I : Nat → Nat, k ≤ 8 ∧ i = .int .i64 k ∧ Hid (SwAt [y0, y1, y2, y3, y4, y5, y6, y7] w.heap.size wr R I) ∧ Hid (∀ j, j < k → FV (R j) (swi (f8 y0 y1 y2 y3 y4 y5 y6 y7) j 8).1 ∧ FV (I j) (swi (f8 y0 y1 y2 y3 y4 y5 y6 y7) j 8).2) ∧ Below w.heap.size w wr) (fun i _ => 8 - (intOf i).toNat)
    case atStart => exact ⟨0, _, _, by omega, rfl, HC, Lib.hid (fun j hj => absurd hj (by omega)), hb2⟩
    case round =>
      clear HC hb2
      obtain ⟨k, R, I, hk, rfl, H1, H2, hb⟩ := hrel
      have hsz := H1.out.2.2.2
      by_cases hlt : k < 8
      · have HS := Lib.hid (swing_spec_all k hlt w.heap.size y0 y1 y2 y3 y4 y5 y6 y7 wr H1.out.1)
        go_wp2_with fail
        go_at_call 68
        refine (HS.out).mono ?_
        rintro e w2 ⟨r, i, rfl, hr, hi, hb2⟩
        have hb3 := bstep hb hb2
        have K1 := Lib.hid (H1.out.below hb2)
        have x0 := (K1.out.2.1 k hlt).1
        have g0 := (K1.out.2.1 k hlt).2
        have K2 := Lib.hid (K1.out.set hlt r i)
        have K3 : Hid (∀ j, j < k + 1 → FV (if j = k then r else R j) (swi (f8 y0 y1 y2 y3 y4 y5 y6 y7) j 8).1 ∧ FV (if j = k then i else I j) (swi (f8 y0 y1 y2 y3 y4 y5 y6 y7) j 8).2) := Lib.hid (fun j hj => by
          by_cases hjk : j = k
          · subst hjk; rw [if_pos rfl, if_pos rfl]; exact ⟨hr, hi⟩
          · rw [if_neg hjk, if_neg hjk]; exact H2.out j (by omega))
        have hb4 := bset hb3 (show w.heap.size ≤ w.heap.size + 2 by omega) (p := ⟨w.heap.size + 2, k, none⟩) (.complex .f32 r i)
        clear HS hr hi hb2 H1 H2
        go_wp2
        go_roundw
        case rel => exact ⟨k + 1, _, _, hlt, by go_num, K2, K3, hb4⟩
        case measure => simp [intOf]; omega
      · obtain rfl : k = 8 := by omega
        have e0 : wr.cell? ⟨w.heap.size + 2, 0, none⟩ = some (.complex .f32 (R 0) (I 0)) := (H1.out.2.1 0 (by omega)).1
        have x0 : wr.cell? ⟨w.heap.size + 1, 0, none⟩ = some (.complex .f32 0 0) := (H1.out.2.2.1 0 (by omega)).1
        have f0 : wr.frozen? ⟨w.heap.size + 1, 0, none⟩ = false := (H1.out.2.2.1 0 (by omega)).2
        have e1 : wr.cell? ⟨w.heap.size + 2, 1, none⟩ = some (.complex .f32 (R 1) (I 1)) := (H1.out.2.1 1 (by omega)).1
        have x1 : wr.cell? ⟨w.heap.size + 1, 1, none⟩ = some (.complex .f32 0 0) := (H1.out.2.2.1 1 (by omega)).1
        have f1 : wr.frozen? ⟨w.heap.size + 1, 1, none⟩ = false := (H1.out.2.2.1 1 (by omega)).2
        have e2 : wr.cell? ⟨w.heap.size + 2, 2, none⟩ = some (.complex .f32 (R 2) (I 2)) := (H1.out.2.1 2 (by omega)).1
        have x2 : wr.cell? ⟨w.heap.size + 1, 2, none⟩ = some (.complex .f32 0 0) := (H1.out.2.2.1 2 (by omega)).1
        have f2 : wr.frozen? ⟨w.heap.size + 1, 2, none⟩ = false := (H1.out.2.2.1 2 (by omega)).2
        have e3 : wr.cell? ⟨w.heap.size + 2, 3, none⟩ = some (.complex .f32 (R 3) (I 3)) := (H1.out.2.1 3 (by omega)).1
        have x3 : wr.cell? ⟨w.heap.size + 1, 3, none⟩ = some (.complex .f32 0 0) := (H1.out.2.2.1 3 (by omega)).1
        have f3 : wr.frozen? ⟨w.heap.size + 1, 3, none⟩ = false := (H1.out.2.2.1 3 (by omega)).2
        have e4 : wr.cell? ⟨w.heap.size + 2, 4, none⟩ = some (.complex .f32 (R 4) (I 4)) := (H1.out.2.1 4 (by omega)).1
        have x4 : wr.cell? ⟨w.heap.size + 1, 4, none⟩ = some (.complex .f32 0 0) := (H1.out.2.2.1 4 (by omega)).1
        have f4 : wr.frozen? ⟨w.heap.size + 1, 4, none⟩ = false := (H1.out.2.2.1 4 (by omega)).2
        have e5 : wr.cell? ⟨w.heap.size + 2, 5, none⟩ = some (.complex .f32 (R 5) (I 5)) := (H1.out.2.1 5 (by omega)).1
        have x5 : wr.cell? ⟨w.heap.size + 1, 5, none⟩ = some (.complex .f32 0 0) := (H1.out.2.2.1 5 (by omega)).1
        have f5 : wr.frozen? ⟨w.heap.size + 1, 5, none⟩ = false := (H1.out.2.2.1 5 (by omega)).2
        have e6 : wr.cell? ⟨w.heap.size + 2, 6, none⟩ = some (.complex .f32 (R 6) (I 6)) := (H1.out.2.1 6 (by omega)).1
        have x6 : wr.cell? ⟨w.heap.size + 1, 6, none⟩ = some (.complex .f32 0 0) := (H1.out.2.2.1 6 (by omega)).1
        have f6 : wr.frozen? ⟨w.heap.size + 1, 6, none⟩ = false := (H1.out.2.2.1 6 (by omega)).2
        have e7 : wr.cell? ⟨w.heap.size + 2, 7, none⟩ = some (.complex .f32 (R 7) (I 7)) := (H1.out.2.1 7 (by omega)).1
        have x7 : wr.cell? ⟨w.heap.size + 1, 7, none⟩ = some (.complex .f32 0 0) := (H1.out.2.2.1 7 (by omega)).1
        have f7 : wr.frozen? ⟨w.heap.size + 1, 7, none⟩ = false := (H1.out.2.2.1 7 (by omega)).2
        have HR8 := eight_read (w := wr) (g := w.heap.size + 1) (v0 := .complex .f32 (R 0) (I 0)) (v1 := .complex .f32 (R 1) (I 1)) (v2 := .complex .f32 (R 2) (I 2)) (v3 := .complex .f32 (R 3) (I 3)) (v4 := .complex .f32 (R 4) (I 4)) (v5 := .complex .f32 (R 5) (I 5)) (v6 := .complex .f32 (R 6) (I 6)) (v7 := .complex .f32 (R 7) (I 7)) (fun j hj => ⟨_, (H1.out.2.2.1 j hj).1⟩)
        have hB8 : Below w.heap.size w ((((((((wr.setCell ⟨w.heap.size + 1, 0, none⟩ (.complex .f32 (R 0) (I 0))).setCell ⟨w.heap.size + 1, 1, none⟩ (.complex .f32 (R 1) (I 1))).setCell ⟨w.heap.size + 1, 2, none⟩ (.complex .f32 (R 2) (I 2))).setCell ⟨w.heap.size + 1, 3, none⟩ (.complex .f32 (R 3) (I 3))).setCell ⟨w.heap.size + 1, 4, none⟩ (.complex .f32 (R 4) (I 4))).setCell ⟨w.heap.size + 1, 5, none⟩ (.complex .f32 (R 5) (I 5))).setCell ⟨w.heap.size + 1, 6, none⟩ (.complex .f32 (R 6) (I 6))).setCell ⟨w.heap.size + 1, 7, none⟩ (.complex .f32 (R 7) (I 7))) := by
          repeat (first | exact hb | refine bset ?_ (show w.heap.size ≤ w.heap.size + 1 by omega) _)
        have HH8 := Lib.hid (And.intro HR8 hB8)
        clear HR8 hB8
        go_wp2
        clear e0 e1 e2 e3 e4 e5 e6 e7 f0 f1 f2 f3 f4 f5 f6 f7 x0 x1 x2 x3 x4 x5 x6 x7
        have HK := HH8.out
        clear HH8
        generalize ((((((((wr.setCell ⟨w.heap.size + 1, 0, none⟩ (.complex .f32 (R 0) (I 0))).setCell ⟨w.heap.size + 1, 1, none⟩ (.complex .f32 (R 1) (I 1))).setCell ⟨w.heap.size + 1, 2, none⟩ (.complex .f32 (R 2) (I 2))).setCell ⟨w.heap.size + 1, 3, none⟩ (.complex .f32 (R 3) (I 3))).setCell ⟨w.heap.size + 1, 4, none⟩ (.complex .f32 (R 4) (I 4))).setCell ⟨w.heap.size + 1, 5, none⟩ (.complex .f32 (R 5) (I 5))).setCell ⟨w.heap.size + 1, 6, none⟩ (.complex .f32 (R 6) (I 6))).setCell ⟨w.heap.size + 1, 7, none⟩ (.complex .f32 (R 7) (I 7))) = W8 at HK ⊢
        obtain ⟨⟨r0, r1, r2, r3, r4, r5, r6, r7⟩, hB8⟩ := HK
        refine bodyPost_ret (v := .tuple #[(.agg #[.complex .f32 (R 0) (I 0), .complex .f32 (R 1) (I 1), .complex .f32 (R 2) (I 2), .complex .f32 (R 3) (I 3), .complex .f32 (R 4) (I 4), .complex .f32 (R 5) (I 5), .complex .f32 (R 6) (I 6), .complex .f32 (R 7) (I 7)]), .int .i64 0]) (by simp only [results, Try.results20]; go_simp) rfl ⟨R, I, rfl, H2.out, hB8⟩
set_option maxHeartbeats 8000000 in
theorem swingsOf_impl (y0 y1 y2 y3 y4 y5 y6 y7 : Nat) (l0 : y0 < 4294967296) (l1 : y1 < 4294967296) (l2 : y2 < 4294967296) (l3 : y3 < 4294967296) (l4 : y4 < 4294967296) (l5 : y5 < 4294967296) (l6 : y6 < 4294967296) (l7 : y7 < 4294967296) (w : World) :
    Calls Try.prog 22 #[(.agg #[.float .f32 y0, .float .f32 y1, .float .f32 y2, .float .f32 y3, .float .f32 y4, .float .f32 y5, .float .f32 y6, .float .f32 y7])] w (SwQ (outSw (f8 y0 y1 y2 y3 y4 y5 y6 y7)) w) := by
  have b0 : Below w.heap.size w (((w.alloc (.cells #[.float .f32 y0, .float .f32 y1, .float .f32 y2, .float .f32 y3, .float .f32 y4, .float .f32 y5, .float .f32 y6, .float .f32 y7] 36)).alloc (.cells #[.complex .f32 0 0, .complex .f32 0 0, .complex .f32 0 0, .complex .f32 0 0, .complex .f32 0 0, .complex .f32 0 0, .complex .f32 0 0, .complex .f32 0 0] 37)).alloc (.cells #[.complex .f32 0 0, .complex .f32 0 0, .complex .f32 0 0, .complex .f32 0 0, .complex .f32 0 0, .complex .f32 0 0, .complex .f32 0 0, .complex .f32 0 0] 37)) := by (repeat (first | with_reducible exact Below.refl _ _ | with_reducible refine bset ?_ (by first | (simp; done) | (simp; omega) | omega) _ | with_reducible refine balloc ?_ _ | with_reducible refine bdrewN ?_ _ | with_reducible refine bdrew ?_ | with_reducible refine bstep ?_ (by assumption)))
  have h0 : SwAt [y0, y1, y2, y3, y4, y5, y6, y7] w.heap.size (((w.alloc (.cells #[.float .f32 y0, .float .f32 y1, .float .f32 y2, .float .f32 y3, .float .f32 y4, .float .f32 y5, .float .f32 y6, .float .f32 y7] 36)).alloc (.cells #[.complex .f32 0 0, .complex .f32 0 0, .complex .f32 0 0, .complex .f32 0 0, .complex .f32 0 0, .complex .f32 0 0, .complex .f32 0 0, .complex .f32 0 0] 37)).alloc (.cells #[.complex .f32 0 0, .complex .f32 0 0, .complex .f32 0 0, .complex .f32 0 0, .complex .f32 0 0, .complex .f32 0 0, .complex .f32 0 0, .complex .f32 0 0] 37)) (fun _ => 0) (fun _ => 0) := by
    refine ⟨fun j hj => ?_, fun j hj => ?_, fun j hj => ?_, by simp⟩
    · have hj8 : j = 0 ∨ j = 1 ∨ j = 2 ∨ j = 3 ∨ j = 4 ∨ j = 5 ∨ j = 6 ∨ j = 7 := by omega
      rcases hj8 with rfl | rfl | rfl | rfl | rfl | rfl | rfl | rfl <;> go_simp
    · have hj8 : j = 0 ∨ j = 1 ∨ j = 2 ∨ j = 3 ∨ j = 4 ∨ j = 5 ∨ j = 6 ∨ j = 7 := by omega
      rcases hj8 with rfl | rfl | rfl | rfl | rfl | rfl | rfl | rfl <;> (constructor <;> go_simp)
    · have hj8 : j = 0 ∨ j = 1 ∨ j = 2 ∨ j = 3 ∨ j = 4 ∨ j = 5 ∨ j = 6 ∨ j = 7 := by omega
      rcases hj8 with rfl | rfl | rfl | rfl | rfl | rfl | rfl | rfl <;> (constructor <;> go_simp)
  have H0 := Lib.hid h0
  have hbz := fun (w : World) => run_build (P := Try.prog) w 37 #[] #[.complex .f32 0 0, .complex .f32 0 0, .complex .f32 0 0, .complex .f32 0 0, .complex .f32 0 0, .complex .f32 0 0, .complex .f32 0 0, .complex .f32 0 0] (by kernel_rfl)
  have HT := Lib.hid (areReadings_any y0 y1 y2 y3 y4 y5 y6 y7 l0 l1 l2 l3 l4 l5 l6 l7)
  clear h0 l0 l1 l2 l3 l4 l5 l6 l7
  cases hr : rdK (f8 y0 y1 y2 y3 y4 y5 y6 y7) 8
  · have ho : outSw (f8 y0 y1 y2 y3 y4 y5 y6 y7) = (fun _ => (0, 0), 2) := by unfold outSw; rw [hr]; rfl
    rw [hr] at HT
    rw [ho]
    clear ho hr
    go_enter Try.func22, Try.ntmps22
    go_wp2_with fail
    go_at_call 69
    refine (HT.out _).mono ?_
    rintro e w1 ⟨rfl, hb1⟩
    have hb2 := bstep b0 hb1
    have HC := Lib.hid (H0.out.below hb1)
    have hsz := HC.out.2.2.2
    clear H0 HT hb1 b0
    have e0 : w1.cell? ⟨w.heap.size + 2, 0, none⟩ = some (.complex .f32 ((fun _ => 0 : Nat → Nat) 0) ((fun _ => 0 : Nat → Nat) 0)) := (HC.out.2.1 0 (by omega)).1
    have x0 : w1.cell? ⟨w.heap.size + 1, 0, none⟩ = some (.complex .f32 0 0) := (HC.out.2.2.1 0 (by omega)).1
    have f0 : w1.frozen? ⟨w.heap.size + 1, 0, none⟩ = false := (HC.out.2.2.1 0 (by omega)).2
    have e1 : w1.cell? ⟨w.heap.size + 2, 1, none⟩ = some (.complex .f32 ((fun _ => 0 : Nat → Nat) 1) ((fun _ => 0 : Nat → Nat) 1)) := (HC.out.2.1 1 (by omega)).1
    have x1 : w1.cell? ⟨w.heap.size + 1, 1, none⟩ = some (.complex .f32 0 0) := (HC.out.2.2.1 1 (by omega)).1
    have f1 : w1.frozen? ⟨w.heap.size + 1, 1, none⟩ = false := (HC.out.2.2.1 1 (by omega)).2
    have e2 : w1.cell? ⟨w.heap.size + 2, 2, none⟩ = some (.complex .f32 ((fun _ => 0 : Nat → Nat) 2) ((fun _ => 0 : Nat → Nat) 2)) := (HC.out.2.1 2 (by omega)).1
    have x2 : w1.cell? ⟨w.heap.size + 1, 2, none⟩ = some (.complex .f32 0 0) := (HC.out.2.2.1 2 (by omega)).1
    have f2 : w1.frozen? ⟨w.heap.size + 1, 2, none⟩ = false := (HC.out.2.2.1 2 (by omega)).2
    have e3 : w1.cell? ⟨w.heap.size + 2, 3, none⟩ = some (.complex .f32 ((fun _ => 0 : Nat → Nat) 3) ((fun _ => 0 : Nat → Nat) 3)) := (HC.out.2.1 3 (by omega)).1
    have x3 : w1.cell? ⟨w.heap.size + 1, 3, none⟩ = some (.complex .f32 0 0) := (HC.out.2.2.1 3 (by omega)).1
    have f3 : w1.frozen? ⟨w.heap.size + 1, 3, none⟩ = false := (HC.out.2.2.1 3 (by omega)).2
    have e4 : w1.cell? ⟨w.heap.size + 2, 4, none⟩ = some (.complex .f32 ((fun _ => 0 : Nat → Nat) 4) ((fun _ => 0 : Nat → Nat) 4)) := (HC.out.2.1 4 (by omega)).1
    have x4 : w1.cell? ⟨w.heap.size + 1, 4, none⟩ = some (.complex .f32 0 0) := (HC.out.2.2.1 4 (by omega)).1
    have f4 : w1.frozen? ⟨w.heap.size + 1, 4, none⟩ = false := (HC.out.2.2.1 4 (by omega)).2
    have e5 : w1.cell? ⟨w.heap.size + 2, 5, none⟩ = some (.complex .f32 ((fun _ => 0 : Nat → Nat) 5) ((fun _ => 0 : Nat → Nat) 5)) := (HC.out.2.1 5 (by omega)).1
    have x5 : w1.cell? ⟨w.heap.size + 1, 5, none⟩ = some (.complex .f32 0 0) := (HC.out.2.2.1 5 (by omega)).1
    have f5 : w1.frozen? ⟨w.heap.size + 1, 5, none⟩ = false := (HC.out.2.2.1 5 (by omega)).2
    have e6 : w1.cell? ⟨w.heap.size + 2, 6, none⟩ = some (.complex .f32 ((fun _ => 0 : Nat → Nat) 6) ((fun _ => 0 : Nat → Nat) 6)) := (HC.out.2.1 6 (by omega)).1
    have x6 : w1.cell? ⟨w.heap.size + 1, 6, none⟩ = some (.complex .f32 0 0) := (HC.out.2.2.1 6 (by omega)).1
    have f6 : w1.frozen? ⟨w.heap.size + 1, 6, none⟩ = false := (HC.out.2.2.1 6 (by omega)).2
    have e7 : w1.cell? ⟨w.heap.size + 2, 7, none⟩ = some (.complex .f32 ((fun _ => 0 : Nat → Nat) 7) ((fun _ => 0 : Nat → Nat) 7)) := (HC.out.2.1 7 (by omega)).1
    have x7 : w1.cell? ⟨w.heap.size + 1, 7, none⟩ = some (.complex .f32 0 0) := (HC.out.2.2.1 7 (by omega)).1
    have f7 : w1.frozen? ⟨w.heap.size + 1, 7, none⟩ = false := (HC.out.2.2.1 7 (by omega)).2
    have HR8 := eight_read (w := w1) (g := w.heap.size + 1) (v0 := .complex .f32 ((fun _ => 0 : Nat → Nat) 0) ((fun _ => 0 : Nat → Nat) 0)) (v1 := .complex .f32 ((fun _ => 0 : Nat → Nat) 1) ((fun _ => 0 : Nat → Nat) 1)) (v2 := .complex .f32 ((fun _ => 0 : Nat → Nat) 2) ((fun _ => 0 : Nat → Nat) 2)) (v3 := .complex .f32 ((fun _ => 0 : Nat → Nat) 3) ((fun _ => 0 : Nat → Nat) 3)) (v4 := .complex .f32 ((fun _ => 0 : Nat → Nat) 4) ((fun _ => 0 : Nat → Nat) 4)) (v5 := .complex .f32 ((fun _ => 0 : Nat → Nat) 5) ((fun _ => 0 : Nat → Nat) 5)) (v6 := .complex .f32 ((fun _ => 0 : Nat → Nat) 6) ((fun _ => 0 : Nat → Nat) 6)) (v7 := .complex .f32 ((fun _ => 0 : Nat → Nat) 7) ((fun _ => 0 : Nat → Nat) 7)) (fun j hj => ⟨_, (HC.out.2.2.1 j hj).1⟩)
    have hB8 : Below w.heap.size w ((((((((w1.setCell ⟨w.heap.size + 1, 0, none⟩ (.complex .f32 ((fun _ => 0 : Nat → Nat) 0) ((fun _ => 0 : Nat → Nat) 0))).setCell ⟨w.heap.size + 1, 1, none⟩ (.complex .f32 ((fun _ => 0 : Nat → Nat) 1) ((fun _ => 0 : Nat → Nat) 1))).setCell ⟨w.heap.size + 1, 2, none⟩ (.complex .f32 ((fun _ => 0 : Nat → Nat) 2) ((fun _ => 0 : Nat → Nat) 2))).setCell ⟨w.heap.size + 1, 3, none⟩ (.complex .f32 ((fun _ => 0 : Nat → Nat) 3) ((fun _ => 0 : Nat → Nat) 3))).setCell ⟨w.heap.size + 1, 4, none⟩ (.complex .f32 ((fun _ => 0 : Nat → Nat) 4) ((fun _ => 0 : Nat → Nat) 4))).setCell ⟨w.heap.size + 1, 5, none⟩ (.complex .f32 ((fun _ => 0 : Nat → Nat) 5) ((fun _ => 0 : Nat → Nat) 5))).setCell ⟨w.heap.size + 1, 6, none⟩ (.complex .f32 ((fun _ => 0 : Nat → Nat) 6) ((fun _ => 0 : Nat → Nat) 6))).setCell ⟨w.heap.size + 1, 7, none⟩ (.complex .f32 ((fun _ => 0 : Nat → Nat) 7) ((fun _ => 0 : Nat → Nat) 7))) := by
      repeat (first | exact hb2 | refine bset ?_ (show w.heap.size ≤ w.heap.size + 1 by omega) _)
    have HH8 := Lib.hid (And.intro HR8 hB8)
    clear HR8 hB8
    go_wp2
    clear e0 e1 e2 e3 e4 e5 e6 e7 f0 f1 f2 f3 f4 f5 f6 f7 x0 x1 x2 x3 x4 x5 x6 x7
    have HK := HH8.out
    clear HH8
    generalize ((((((((w1.setCell ⟨w.heap.size + 1, 0, none⟩ (.complex .f32 ((fun _ => 0 : Nat → Nat) 0) ((fun _ => 0 : Nat → Nat) 0))).setCell ⟨w.heap.size + 1, 1, none⟩ (.complex .f32 ((fun _ => 0 : Nat → Nat) 1) ((fun _ => 0 : Nat → Nat) 1))).setCell ⟨w.heap.size + 1, 2, none⟩ (.complex .f32 ((fun _ => 0 : Nat → Nat) 2) ((fun _ => 0 : Nat → Nat) 2))).setCell ⟨w.heap.size + 1, 3, none⟩ (.complex .f32 ((fun _ => 0 : Nat → Nat) 3) ((fun _ => 0 : Nat → Nat) 3))).setCell ⟨w.heap.size + 1, 4, none⟩ (.complex .f32 ((fun _ => 0 : Nat → Nat) 4) ((fun _ => 0 : Nat → Nat) 4))).setCell ⟨w.heap.size + 1, 5, none⟩ (.complex .f32 ((fun _ => 0 : Nat → Nat) 5) ((fun _ => 0 : Nat → Nat) 5))).setCell ⟨w.heap.size + 1, 6, none⟩ (.complex .f32 ((fun _ => 0 : Nat → Nat) 6) ((fun _ => 0 : Nat → Nat) 6))).setCell ⟨w.heap.size + 1, 7, none⟩ (.complex .f32 ((fun _ => 0 : Nat → Nat) 7) ((fun _ => 0 : Nat → Nat) 7))) = W8 at HK ⊢
    obtain ⟨⟨r0, r1, r2, r3, r4, r5, r6, r7⟩, hB8⟩ := HK
    refine bodyPost_ret (v := .tuple #[(.agg #[.complex .f32 ((fun _ => 0 : Nat → Nat) 0) ((fun _ => 0 : Nat → Nat) 0), .complex .f32 ((fun _ => 0 : Nat → Nat) 1) ((fun _ => 0 : Nat → Nat) 1), .complex .f32 ((fun _ => 0 : Nat → Nat) 2) ((fun _ => 0 : Nat → Nat) 2), .complex .f32 ((fun _ => 0 : Nat → Nat) 3) ((fun _ => 0 : Nat → Nat) 3), .complex .f32 ((fun _ => 0 : Nat → Nat) 4) ((fun _ => 0 : Nat → Nat) 4), .complex .f32 ((fun _ => 0 : Nat → Nat) 5) ((fun _ => 0 : Nat → Nat) 5), .complex .f32 ((fun _ => 0 : Nat → Nat) 6) ((fun _ => 0 : Nat → Nat) 6), .complex .f32 ((fun _ => 0 : Nat → Nat) 7) ((fun _ => 0 : Nat → Nat) 7)]), .int .i64 2]) (by simp only [results, Try.results22]; go_simp) rfl ⟨(fun _ => 0 : Nat → Nat), (fun _ => 0 : Nat → Nat), rfl, fun j _ => ⟨FV_zero, FV_zero⟩, hB8⟩
  · have ho : outSw (f8 y0 y1 y2 y3 y4 y5 y6 y7) = (fun n => swi (f8 y0 y1 y2 y3 y4 y5 y6 y7) n 8, 0) := by unfold outSw; rw [hr]; rfl
    rw [hr] at HT
    rw [ho]
    clear ho hr
    go_enter Try.func22, Try.ntmps22
    go_wp2_with fail
    go_at_call 69
    refine (HT.out _).mono ?_
    rintro e w1 ⟨rfl, hb1⟩
    have hb2 := bstep b0 hb1
    have HC := Lib.hid (H0.out.below hb1)
    clear H0 HT hb1 b0
    go_wp2
    go_loopw [11] (fun i wr => ∃ k : Nat, ∃ R I : Nat → Nat, k ≤ 8 ∧ i = .int .i64 k ∧ Hid (SwAt [y0, y1, y2, y3, y4, y5, y6, y7] w.heap.size wr R I) ∧ Hid (∀ j, j < k → FV (R j) (swi (f8 y0 y1 y2 y3 y4 y5 y6 y7) j 8).1 ∧ FV (I j) (swi (f8 y0 y1 y2 y3 y4 y5 y6 y7) j 8).2) ∧ Below w.heap.size w wr) (fun i _ => 8 - (intOf i).toNat)
    case atStart => exact ⟨0, _, _, by omega, rfl, HC, Lib.hid (fun j hj => absurd hj (by omega)), hb2⟩
    case round =>
      clear HC hb2
      obtain ⟨k, R, I, hk, rfl, H1, H2, hb⟩ := hrel
      have hsz := H1.out.2.2.2
      by_cases hlt : k < 8
      · have HS := Lib.hid (swing_impl_all y0 y1 y2 y3 y4 y5 y6 y7 k hlt)
        have d0 : wr.cell? ⟨w.heap.size, 0, none⟩ = some (.float .f32 y0) := H1.out.1 0 (by omega)
        have d1 : wr.cell? ⟨w.heap.size, 1, none⟩ = some (.float .f32 y1) := H1.out.1 1 (by omega)
        have d2 : wr.cell? ⟨w.heap.size, 2, none⟩ = some (.float .f32 y2) := H1.out.1 2 (by omega)
        have d3 : wr.cell? ⟨w.heap.size, 3, none⟩ = some (.float .f32 y3) := H1.out.1 3 (by omega)
        have d4 : wr.cell? ⟨w.heap.size, 4, none⟩ = some (.float .f32 y4) := H1.out.1 4 (by omega)
        have d5 : wr.cell? ⟨w.heap.size, 5, none⟩ = some (.float .f32 y5) := H1.out.1 5 (by omega)
        have d6 : wr.cell? ⟨w.heap.size, 6, none⟩ = some (.float .f32 y6) := H1.out.1 6 (by omega)
        have d7 : wr.cell? ⟨w.heap.size, 7, none⟩ = some (.float .f32 y7) := H1.out.1 7 (by omega)
        have hz1 : w.heap.size < wr.heap.size := by omega
        go_wp2_with fail
        go_at_call 70
        refine (HS.out _).mono ?_
        rintro e w2 ⟨r, i, rfl, hr, hi, hb2⟩
        have hb3 := bstep hb hb2
        have K1 := Lib.hid (H1.out.below hb2)
        have x0 := (K1.out.2.1 k hlt).1
        have g0 := (K1.out.2.1 k hlt).2
        have K2 := Lib.hid (K1.out.set hlt r i)
        have K3 : Hid (∀ j, j < k + 1 → FV (if j = k then r else R j) (swi (f8 y0 y1 y2 y3 y4 y5 y6 y7) j 8).1 ∧ FV (if j = k then i else I j) (swi (f8 y0 y1 y2 y3 y4 y5 y6 y7) j 8).2) := Lib.hid (fun j hj => by
          by_cases hjk : j = k
          · subst hjk; rw [if_pos rfl, if_pos rfl]; exact ⟨hr, hi⟩
          · rw [if_neg hjk, if_neg hjk]; exact H2.out j (by omega))
        have hb4 := bset hb3 (show w.heap.size ≤ w.heap.size + 2 by omega) (p := ⟨w.heap.size + 2, k, none⟩) (.complex .f32 r i)
        clear HS hr hi hb2 H1 H2
        go_wp2
        go_roundw
        case rel => exact ⟨k + 1, _, _, hlt, by go_num, K2, K3, hb4⟩
        case measure => simp [intOf]; omega
      · obtain rfl : k = 8 := by omega
        have e0 : wr.cell? ⟨w.heap.size + 2, 0, none⟩ = some (.complex .f32 (R 0) (I 0)) := (H1.out.2.1 0 (by omega)).1
        have x0 : wr.cell? ⟨w.heap.size + 1, 0, none⟩ = some (.complex .f32 0 0) := (H1.out.2.2.1 0 (by omega)).1
        have f0 : wr.frozen? ⟨w.heap.size + 1, 0, none⟩ = false := (H1.out.2.2.1 0 (by omega)).2
        have e1 : wr.cell? ⟨w.heap.size + 2, 1, none⟩ = some (.complex .f32 (R 1) (I 1)) := (H1.out.2.1 1 (by omega)).1
        have x1 : wr.cell? ⟨w.heap.size + 1, 1, none⟩ = some (.complex .f32 0 0) := (H1.out.2.2.1 1 (by omega)).1
        have f1 : wr.frozen? ⟨w.heap.size + 1, 1, none⟩ = false := (H1.out.2.2.1 1 (by omega)).2
        have e2 : wr.cell? ⟨w.heap.size + 2, 2, none⟩ = some (.complex .f32 (R 2) (I 2)) := (H1.out.2.1 2 (by omega)).1
        have x2 : wr.cell? ⟨w.heap.size + 1, 2, none⟩ = some (.complex .f32 0 0) := (H1.out.2.2.1 2 (by omega)).1
        have f2 : wr.frozen? ⟨w.heap.size + 1, 2, none⟩ = false := (H1.out.2.2.1 2 (by omega)).2
        have e3 : wr.cell? ⟨w.heap.size + 2, 3, none⟩ = some (.complex .f32 (R 3) (I 3)) := (H1.out.2.1 3 (by omega)).1
        have x3 : wr.cell? ⟨w.heap.size + 1, 3, none⟩ = some (.complex .f32 0 0) := (H1.out.2.2.1 3 (by omega)).1
        have f3 : wr.frozen? ⟨w.heap.size + 1, 3, none⟩ = false := (H1.out.2.2.1 3 (by omega)).2
        have e4 : wr.cell? ⟨w.heap.size + 2, 4, none⟩ = some (.complex .f32 (R 4) (I 4)) := (H1.out.2.1 4 (by omega)).1
        have x4 : wr.cell? ⟨w.heap.size + 1, 4, none⟩ = some (.complex .f32 0 0) := (H1.out.2.2.1 4 (by omega)).1
        have f4 : wr.frozen? ⟨w.heap.size + 1, 4, none⟩ = false := (H1.out.2.2.1 4 (by omega)).2
        have e5 : wr.cell? ⟨w.heap.size + 2, 5, none⟩ = some (.complex .f32 (R 5) (I 5)) := (H1.out.2.1 5 (by omega)).1
        have x5 : wr.cell? ⟨w.heap.size + 1, 5, none⟩ = some (.complex .f32 0 0) := (H1.out.2.2.1 5 (by omega)).1
        have f5 : wr.frozen? ⟨w.heap.size + 1, 5, none⟩ = false := (H1.out.2.2.1 5 (by omega)).2
        have e6 : wr.cell? ⟨w.heap.size + 2, 6, none⟩ = some (.complex .f32 (R 6) (I 6)) := (H1.out.2.1 6 (by omega)).1
        have x6 : wr.cell? ⟨w.heap.size + 1, 6, none⟩ = some (.complex .f32 0 0) := (H1.out.2.2.1 6 (by omega)).1
        have f6 : wr.frozen? ⟨w.heap.size + 1, 6, none⟩ = false := (H1.out.2.2.1 6 (by omega)).2
        have e7 : wr.cell? ⟨w.heap.size + 2, 7, none⟩ = some (.complex .f32 (R 7) (I 7)) := (H1.out.2.1 7 (by omega)).1
        have x7 : wr.cell? ⟨w.heap.size + 1, 7, none⟩ = some (.complex .f32 0 0) := (H1.out.2.2.1 7 (by omega)).1
        have f7 : wr.frozen? ⟨w.heap.size + 1, 7, none⟩ = false := (H1.out.2.2.1 7 (by omega)).2
        have HR8 := eight_read (w := wr) (g := w.heap.size + 1) (v0 := .complex .f32 (R 0) (I 0)) (v1 := .complex .f32 (R 1) (I 1)) (v2 := .complex .f32 (R 2) (I 2)) (v3 := .complex .f32 (R 3) (I 3)) (v4 := .complex .f32 (R 4) (I 4)) (v5 := .complex .f32 (R 5) (I 5)) (v6 := .complex .f32 (R 6) (I 6)) (v7 := .complex .f32 (R 7) (I 7)) (fun j hj => ⟨_, (H1.out.2.2.1 j hj).1⟩)
        have hB8 : Below w.heap.size w ((((((((wr.setCell ⟨w.heap.size + 1, 0, none⟩ (.complex .f32 (R 0) (I 0))).setCell ⟨w.heap.size + 1, 1, none⟩ (.complex .f32 (R 1) (I 1))).setCell ⟨w.heap.size + 1, 2, none⟩ (.complex .f32 (R 2) (I 2))).setCell ⟨w.heap.size + 1, 3, none⟩ (.complex .f32 (R 3) (I 3))).setCell ⟨w.heap.size + 1, 4, none⟩ (.complex .f32 (R 4) (I 4))).setCell ⟨w.heap.size + 1, 5, none⟩ (.complex .f32 (R 5) (I 5))).setCell ⟨w.heap.size + 1, 6, none⟩ (.complex .f32 (R 6) (I 6))).setCell ⟨w.heap.size + 1, 7, none⟩ (.complex .f32 (R 7) (I 7))) := by
          repeat (first | exact hb | refine bset ?_ (show w.heap.size ≤ w.heap.size + 1 by omega) _)
        have HH8 := Lib.hid (And.intro HR8 hB8)
        clear HR8 hB8
        go_wp2
        clear e0 e1 e2 e3 e4 e5 e6 e7 f0 f1 f2 f3 f4 f5 f6 f7 x0 x1 x2 x3 x4 x5 x6 x7
        have HK := HH8.out
        clear HH8
        generalize ((((((((wr.setCell ⟨w.heap.size + 1, 0, none⟩ (.complex .f32 (R 0) (I 0))).setCell ⟨w.heap.size + 1, 1, none⟩ (.complex .f32 (R 1) (I 1))).setCell ⟨w.heap.size + 1, 2, none⟩ (.complex .f32 (R 2) (I 2))).setCell ⟨w.heap.size + 1, 3, none⟩ (.complex .f32 (R 3) (I 3))).setCell ⟨w.heap.size + 1, 4, none⟩ (.complex .f32 (R 4) (I 4))).setCell ⟨w.heap.size + 1, 5, none⟩ (.complex .f32 (R 5) (I 5))).setCell ⟨w.heap.size + 1, 6, none⟩ (.complex .f32 (R 6) (I 6))).setCell ⟨w.heap.size + 1, 7, none⟩ (.complex .f32 (R 7) (I 7))) = W8 at HK ⊢
        obtain ⟨⟨r0, r1, r2, r3, r4, r5, r6, r7⟩, hB8⟩ := HK
        refine bodyPost_ret (v := .tuple #[(.agg #[.complex .f32 (R 0) (I 0), .complex .f32 (R 1) (I 1), .complex .f32 (R 2) (I 2), .complex .f32 (R 3) (I 3), .complex .f32 (R 4) (I 4), .complex .f32 (R 5) (I 5), .complex .f32 (R 6) (I 6), .complex .f32 (R 7) (I 7)]), .int .i64 0]) (by simp only [results, Try.results22]; go_simp) rfl ⟨R, I, rfl, H2.out, hB8⟩
end Go.Proofs.Ytiipnbccfbielaa
