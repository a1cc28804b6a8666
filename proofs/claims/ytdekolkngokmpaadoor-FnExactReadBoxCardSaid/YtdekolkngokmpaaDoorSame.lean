/- When two numbers are the same: the reference's, the program's and the laws' own test. -/
import Derived.Test.YtdekolkngokmpaaDoorA
import Derived.Test.YtdekolkngokmpaaDoorF6
namespace Go.Proofs.YtdekolkngokmpaaDoor
open Go.RowKit Ieee
set_option maxRecDepth 100000

def same (a b : Nat) : Bool := decide (cn a = cn b)
theorem same_eq (a b : Nat) : same a b = if isn a = true ∨ isn b = true then (isn a && isn b) else decide (a = b) := by
  unfold same
  cases ha : isn a <;> cases hb : isn b
  · simp [cn_of_not ha, cn_of_not hb]
  · have : cn a ≠ cn b := by
      rw [cn_of_not ha, cn_of_isn hb]; intro e; rw [e, isn_nanW] at ha; cases ha
    simp [this]
  · have : cn a ≠ cn b := by
      rw [cn_of_isn ha, cn_of_not hb]; intro e; rw [← e, isn_nanW] at hb; cases hb
    simp [this]
  · simp [cn_of_isn ha, cn_of_isn hb]

theorem cast_eq_nat (a b : Nat) : ((a : Int) == (b : Int)) = decide (a = b) := by
  rw [Bool.eq_iff_iff]; simp; omega
theorem ne_bits {a b : Nat} (h : isn a ≠ isn b) : ((a : Int) == (b : Int)) = false := by
  rw [cast_eq_nat]
  simp only [decide_eq_false_iff_not]
  rintro rfl
  exact h rfl

theorem quo_zero (s : Bool) : floatBits .quo .f64 4607182418800017408 (if s then 9223372036854775808 else 0) = some (if s then 18442240474082181120 else 9218868437227405312) := by
  cases s <;> decide

end Go.Proofs.YtdekolkngokmpaaDoor
