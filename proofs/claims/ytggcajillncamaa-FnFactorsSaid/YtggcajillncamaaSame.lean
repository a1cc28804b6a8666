/- When two numbers are the same: the reference's, the program's and the laws' own test. -/
import Derived.Test.YtggcajillncamaaA
import Derived.Test.YtggcajillncamaaF6
namespace Go.Proofs.Ytggcajillncamaa
open Go.RowKit Ieee
set_option maxRecDepth 100000

def same (a b : Nat) : Bool := decide (cn a = cn b)
theorem same_eq (a b : Nat) : same a b = if isn a = true ∨ isn b = true then (isn a && isn b) else decide (a = b) := by
  unfold same
  cases ha : isn a <;> cases hb : isn b
  · simp [cn_of_not ha, cn_of_not hb]
  · have : cn a ≠ cn b := by
      rw [cn_of_not ha, cn_of_isn hb]; intro e; rw [e, isn_nanW] at ha; cases ha
    simp [this]
  · have : cn a ≠ cn b := by
      rw [cn_of_isn ha, cn_of_not hb]; intro e; rw [← e, isn_nanW] at hb; cases hb
    simp [this]
  · simp [cn_of_isn ha, cn_of_isn hb]

theorem cast_eq_nat (a b : Nat) : ((a : Int) == (b : Int)) = decide (a = b) := by
  rw [Bool.eq_iff_iff]; simp; omega
theorem ne_bits {a b : Nat} (h : isn a ≠ isn b) : ((a : Int) == (b : Int)) = false := by
  rw [cast_eq_nat]
  simp only [decide_eq_false_iff_not]
  rintro rfl
  exact h rfl
theorem bits_run (b : Nat) (w : World) : (callFunc 54 #[.float .f32 b]).run Try.prog w = .ok (.value (.int .u32 b)) w := by kernel_rfl

set_option maxHeartbeats 400000 in
theorem l01Same_any (a b : Nat) (w : World) :
    Calls Try.prog 26 #[.float .f32 a, .float .f32 b] w fun e w' => e = .returned (.bool (same a b)) ∧ w = w' := by
  have hbits := bits_run
  have ha := feq_self a
  have hb := feq_self b
  rw [same_eq]
  cases h1 : isn a <;> cases h2 : isn b <;> rw [h1] at ha <;> rw [h2] at hb <;> clear h1 h2
  all_goals
    go_enter Try.func26, Try.ntmps26
    go_wp2
    all_goals (go_ret; refine ⟨?_, rfl⟩; simp [cast_eq_nat])


theorem quo_zero (s : Bool) : floatBits .quo .f64 4607182418800017408 (if s then 9223372036854775808 else 0) = some (if s then 18442240474082181120 else 9218868437227405312) := by
  cases s <;> decide

end Go.Proofs.Ytggcajillncamaa
