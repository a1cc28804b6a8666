/- The swing of an order: parts and loops. -/
import Derived.Test.YtiipnbccfbielaaPlace
import Derived.Test.YtiipnbccfbielaaCross
namespace Go.Proofs.Ytiipnbccfbielaa
open Go.RowKit Ieee
open Go.Proofs.YtiipnbccfbielaaW.PrintWords
set_option maxRecDepth 100000
attribute [local irreducible] wpRel

def CQ (x y : Nat) (w : World) (e : Ending) (w' : World) : Prop := ∃ r s, e = .returned (.complex .f32 r s) ∧ FV r x ∧ FV s y ∧ Below w.heap.size w w'
def FQ (x : Nat) (w : World) (e : Ending) (w' : World) : Prop := ∃ r, e = .returned (.float .f32 r) ∧ FV r x ∧ Below w.heap.size w w'
theorem plusPoint_any (a b c d : Nat) (w : World) : Calls Try.prog 98 #[.complex .f32 a b, .complex .f32 c d] w (CQ (fadd (cn a) (cn c)) (fadd (cn b) (cn d)) w) := by
  go_enter Try.func98, Try.ntmps98
  go_wp2_with (first | (refine wpList_fop (o := ⟨some 9, _, _, _, _, _⟩) rfl rfl (by first | exact .inl rfl | exact .inr (.inl rfl) | exact .inr (.inr (.inl rfl)) | exact .inr (.inr (.inr rfl))) rfl rfl ?_; intro r9 n9 h9) | (refine wpList_fop (o := ⟨some 14, _, _, _, _, _⟩) rfl rfl (by first | exact .inl rfl | exact .inr (.inl rfl) | exact .inr (.inr (.inl rfl)) | exact .inr (.inr (.inr rfl))) rfl rfl ?_; intro r14 n14 h14))
  go_ret
  exact ⟨_, _, rfl, h9, h14, by (repeat (first | with_reducible exact Below.refl _ _ | with_reducible refine bset ?_ (by first | (simp; done) | (simp; omega) | omega) _ | with_reducible refine balloc ?_ _ | with_reducible refine bdrewN ?_ _ | with_reducible refine bdrew ?_ | with_reducible refine bstep ?_ (by assumption)))⟩
theorem l07Plus_any (a b c d : Nat) (w : World) : Calls Try.prog 101 #[.complex .f32 a b, .complex .f32 c d] w (CQ (fadd (cn a) (cn c)) (fadd (cn b) (cn d)) w) := by
  go_enter Try.func101, Try.ntmps101
  go_wp2_with (first | (refine wpList_fop (o := ⟨some 9, _, _, _, _, _⟩) rfl rfl (by first | exact .inl rfl | exact .inr (.inl rfl) | exact .inr (.inr (.inl rfl)) | exact .inr (.inr (.inr rfl))) rfl rfl ?_; intro r9 n9 h9) | (refine wpList_fop (o := ⟨some 14, _, _, _, _, _⟩) rfl rfl (by first | exact .inl rfl | exact .inr (.inl rfl) | exact .inr (.inr (.inl rfl)) | exact .inr (.inr (.inr rfl))) rfl rfl ?_; intro r14 n14 h14))
  go_ret
  exact ⟨_, _, rfl, h9, h14, by (repeat (first | with_reducible exact Below.refl _ _ | with_reducible refine bset ?_ (by first | (simp; done) | (simp; omega) | omega) _ | with_reducible refine balloc ?_ _ | with_reducible refine bdrewN ?_ _ | with_reducible refine bdrew ?_ | with_reducible refine bstep ?_ (by assumption)))⟩
theorem partOf_any (a b c : Nat) (w : World) : Calls Try.prog 99 #[.complex .f32 a b, .float .f32 c] w (CQ (fmul (cn a) (cn c)) (fmul (cn b) (cn c)) w) := by
  go_enter Try.func99, Try.ntmps99
  go_wp2_with (first | (refine wpList_fop (o := ⟨some 8, _, _, _, _, _⟩) rfl rfl (by first | exact .inl rfl | exact .inr (.inl rfl) | exact .inr (.inr (.inl rfl)) | exact .inr (.inr (.inr rfl))) rfl rfl ?_; intro r8 n8 h8) | (refine wpList_fop (o := ⟨some 12, _, _, _, _, _⟩) rfl rfl (by first | exact .inl rfl | exact .inr (.inl rfl) | exact .inr (.inr (.inl rfl)) | exact .inr (.inr (.inr rfl))) rfl rfl ?_; intro r12 n12 h12))
  go_ret
  exact ⟨_, _, rfl, h8, h12, by (repeat (first | with_reducible exact Below.refl _ _ | with_reducible refine bset ?_ (by first | (simp; done) | (simp; omega) | omega) _ | with_reducible refine balloc ?_ _ | with_reducible refine bdrewN ?_ _ | with_reducible refine bdrew ?_ | with_reducible refine bstep ?_ (by assumption)))⟩
theorem l07Part_any (a b c : Nat) (w : World) : Calls Try.prog 102 #[.complex .f32 a b, .float .f32 c] w (CQ (fmul (cn a) (cn c)) (fmul (cn b) (cn c)) w) := by
  go_enter Try.func102, Try.ntmps102
  go_wp2_with (first | (refine wpList_fop (o := ⟨some 8, _, _, _, _, _⟩) rfl rfl (by first | exact .inl rfl | exact .inr (.inl rfl) | exact .inr (.inr (.inl rfl)) | exact .inr (.inr (.inr rfl))) rfl rfl ?_; intro r8 n8 h8) | (refine wpList_fop (o := ⟨some 12, _, _, _, _, _⟩) rfl rfl (by first | exact .inl rfl | exact .inr (.inl rfl) | exact .inr (.inr (.inl rfl)) | exact .inr (.inr (.inr rfl))) rfl rfl ?_; intro r12 n12 h12))
  go_ret
  exact ⟨_, _, rfl, h8, h12, by (repeat (first | with_reducible exact Below.refl _ _ | with_reducible refine bset ?_ (by first | (simp; done) | (simp; omega) | omega) _ | with_reducible refine balloc ?_ _ | with_reducible refine bdrewN ?_ _ | with_reducible refine bdrew ?_ | with_reducible refine bstep ?_ (by assumption)))⟩
def sqV (x y : Nat) : Nat := fadd (fmul x x) (fmul y y)
theorem dot_any (a b : Nat) (w : World) : Calls Try.prog 94 #[.complex .f32 a b, .complex .f32 a b] w (FQ (sqV (cn a) (cn b)) w) := by
  go_enter Try.func94, Try.ntmps94
  go_wp2_with (first | (refine wpList_fop (o := ⟨some 9, _, _, _, _, _⟩) rfl rfl (by first | exact .inl rfl | exact .inr (.inl rfl) | exact .inr (.inr (.inl rfl)) | exact .inr (.inr (.inr rfl))) rfl rfl ?_; intro r9 n9 h9) | (refine wpList_fop (o := ⟨some 14, _, _, _, _, _⟩) rfl rfl (by first | exact .inl rfl | exact .inr (.inl rfl) | exact .inr (.inr (.inl rfl)) | exact .inr (.inr (.inr rfl))) rfl rfl ?_; intro r14 n14 h14) | (refine wpList_fop (o := ⟨some 15, _, _, _, _, _⟩) rfl rfl (by first | exact .inl rfl | exact .inr (.inl rfl) | exact .inr (.inr (.inl rfl)) | exact .inr (.inr (.inr rfl))) rfl rfl ?_; intro r15 n15 h15))
  go_ret
  exact ⟨_, rfl, by rw [h9.1, h14.1] at h15; exact h15, by (repeat (first | with_reducible exact Below.refl _ _ | with_reducible refine bset ?_ (by first | (simp; done) | (simp; omega) | omega) _ | with_reducible refine balloc ?_ _ | with_reducible refine bdrewN ?_ _ | with_reducible refine bdrew ?_ | with_reducible refine bstep ?_ (by assumption)))⟩
theorem squareOf_any (a b : Nat) (w : World) : Calls Try.prog 46 #[.complex .f32 a b] w (FQ (sqV (cn a) (cn b)) w) := by
  have HD := Lib.hid (dot_any a b w)
  go_enter Try.func46, Try.ntmps46
  go_wp2_with (go_at_call 94; refine (HD.out).mono ?_; rintro e w1 ⟨r, rfl, hr, hb1⟩)
  go_ret
  exact ⟨_, rfl, hr, hb1⟩
theorem l07Square_any (a b : Nat) (w : World) : Calls Try.prog 71 #[.complex .f32 a b] w (FQ (sqV (cn a) (cn b)) w) := by
  go_enter Try.func71, Try.ntmps71
  go_wp2_with (first | (refine wpList_fop (o := ⟨some 7, _, _, _, _, _⟩) rfl rfl (by first | exact .inl rfl | exact .inr (.inl rfl) | exact .inr (.inr (.inl rfl)) | exact .inr (.inr (.inr rfl))) rfl rfl ?_; intro r7 n7 h7) | (refine wpList_fop (o := ⟨some 12, _, _, _, _, _⟩) rfl rfl (by first | exact .inl rfl | exact .inr (.inl rfl) | exact .inr (.inr (.inl rfl)) | exact .inr (.inr (.inr rfl))) rfl rfl ?_; intro r12 n12 h12) | (refine wpList_fop (o := ⟨some 13, _, _, _, _, _⟩) rfl rfl (by first | exact .inl rfl | exact .inr (.inl rfl) | exact .inr (.inr (.inl rfl)) | exact .inr (.inr (.inr rfl))) rfl rfl ?_; intro r13 n13 h13))
  go_ret
  exact ⟨_, rfl, by rw [h7.1, h12.1] at h13; exact h13, by (repeat (first | with_reducible exact Below.refl _ _ | with_reducible refine bset ?_ (by first | (simp; done) | (simp; omega) | omega) _ | with_reducible refine balloc ?_ _ | with_reducible refine bdrewN ?_ _ | with_reducible refine bdrew ?_ | with_reducible refine bstep ?_ (by assumption)))⟩

def turn (n k : Nat) : Int := ((8 - n * k % 8) % 8 : Nat)
/-- The sum behind k readings. -/
def swi (f : Nat → Nat) (n : Nat) : Nat → Nat × Nat
  | 0 => (0, 0)
  | k + 1 => (fadd (swi f n k).1 (fmul (placeR (turn n k)) (f k)), fadd (swi f n k).2 (fmul (placeI (turn n k)) (f k)))
def f8 (y0 y1 y2 y3 y4 y5 y6 y7 : Nat) (k : Nat) : Nat := [cn y0, cn y1, cn y2, cn y3, cn y4, cn y5, cn y6, cn y7].getD k 0
@[go_sem high] theorem size_f32 (h : 35 < Try.prog.types.size) : (Try.prog.types[35]'h).size = 1 := by kernel_rfl
theorem cn_place (t : Int) : cn (placeR t) = placeR t ∧ cn (placeI t) = placeI t := by
  unfold placeR placeI
  constructor <;> (repeat' split) <;> decide
end Go.Proofs.Ytiipnbccfbielaa
