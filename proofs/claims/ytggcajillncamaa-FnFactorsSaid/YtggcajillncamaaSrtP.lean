/- The order by which the library sorts numbers: a strict weak order; plain. -/
import Derived.Test.YtggcajillncamaaMono
import Derived.Test.YtggcajillncamaaSgn
import Derived.Sort.AssemblyPlain
namespace Go.Proofs.Ytggcajillncamaa
open Ieee
set_option maxRecDepth 100000
/-- cmp.Less at float32: a NaN is less than every number. -/
def ltF (x y : Nat) : Bool := (isn x && !isn y) || flt x y
/-- A NaN below all numbers. -/
def keyF (x : Nat) : Int := if isn x = true then -5000000000 else skey single x
theorem flt_nan_left {x y : Nat} (h : isn x = true) : flt x y = false := by
  unfold flt
  rw [order_nl y h]
  rfl
theorem flt_nan_right {x y : Nat} (h : isn y = true) : flt x y = false := by
  unfold flt
  rw [order_nr x h]
  rfl
theorem skey_gt (x : Nat) : -5000000000 < skey single x := by
  have e0 : single.signWeight = 2147483648 := rfl
  unfold skey sgnd fsgn frung
  rw [e0]
  have := Nat.mod_lt x (show 2147483648 > 0 by decide)
  split <;> omega
theorem ltF_key (x y : Nat) : ltF x y = decide (keyF x < keyF y) := by
  unfold ltF keyF
  cases hx : isn x
  · cases hy : isn y
    · simp only [Bool.false_and, Bool.false_or, Bool.false_eq_true, if_false]
      unfold flt
      rw [order_skey single single_bi hx hy]
      generalize skey single x = a
      generalize skey single y = b
      rcases Int.lt_trichotomy a b with h | h | h
      · rw [Int.compare_eq_lt.2 h, decide_eq_true h]; rfl
      · rw [Int.compare_eq_eq.2 h, decide_eq_false (by omega)]; rfl
      · rw [Int.compare_eq_gt.2 h, decide_eq_false (by omega)]; rfl
    · have := skey_gt x
      rw [flt_nan_right hy]
      simp only [Bool.not_true, Bool.and_false, Bool.or_false, Bool.false_eq_true, if_false, if_true]
      exact (decide_eq_false (by omega)).symm
  · cases hy : isn y
    · have := skey_gt y
      simp only [Bool.not_false, Bool.and_true, Bool.true_or, Bool.false_eq_true, if_false, if_true]
      exact (decide_eq_true (by omega)).symm
    · rw [flt_nan_left hx]
      simp
theorem swo_ltF : Go.Sort.SWO ltF where
  irrefl := fun x => by rw [ltF_key]; simp
  trans := fun x y z h1 h2 => by
    rw [ltF_key, decide_eq_true_eq] at *
    omega
  ntrans := fun x y z h1 h2 => by
    rw [ltF_key, decide_eq_false_iff_not] at *
    omega
theorem ltF_nn {x y : Nat} (hx : nn x) (hy : nn y) : ltF x y = decide (x < y) := by
  unfold ltF
  rw [nn_isn hx, nn_flt hx hy]
  simp
end Go.Proofs.Ytggcajillncamaa
