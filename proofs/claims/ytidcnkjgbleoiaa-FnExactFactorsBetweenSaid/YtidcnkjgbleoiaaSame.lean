/- When two numbers are the same: the reference's, the program's and the laws' own test. -/
import Derived.Test.YtidcnkjgbleoiaaA
import Derived.Test.YtidcnkjgbleoiaaF6
namespace Go.Proofs.Ytidcnkjgbleoiaa
open Go.RowKit Ieee
set_option maxRecDepth 100000

def same (a b : Nat) : Bool := decide (cn a = cn b)
theorem same_eq (a b : Nat) : same a b = if isn a = true ∨ isn b = true then (isn a && isn b) else decide (a = b) := by
  unfold same
  cases ha : isn a <;> cases hb : isn b
  · simp [cn_of_not ha, cn_of_not hb]
  · have : cn a ≠ cn b := by
      rw [cn_of_not ha, cn_of_isn hb]; intro e; rw [e, isn_nanW] at ha; cases ha
    simp [this]
  · have : cn a ≠ cn b := by
      rw [cn_of_isn ha, cn_of_not hb]; intro e; rw [← e, isn_nanW] at hb; cases hb
    simp [this]
  · simp [cn_of_isn ha, cn_of_isn hb]

theorem cast_eq_nat (a b : Nat) : ((a : Int) == (b : Int)) = decide (a = b) := by
  rw [Bool.eq_iff_iff]; simp; omega
theorem ne_bits {a b : Nat} (h : isn a ≠ isn b) : ((a : Int) == (b : Int)) = false := by
  rw [cast_eq_nat]
  simp only [decide_eq_false_iff_not]
  rintro rfl
  exact h rfl

theorem quo_zero (s : Bool) : floatBits .quo .f64 4607182418800017408 (if s then 9223372036854775808 else 0) = some (if s then 18442240474082181120 else 9218868437227405312) := by
  cases s <;> decide

set_option maxHeartbeats 800000 in
/-- Two doubles with one canonical word are the same. -/
theorem sameFloat_any (a b : Nat) (ha : a < 18446744073709551616) (hab : cn6 a = cn6 b) (w : World) :
    Calls Try.prog 16 #[.float .f64 a, .float .f64 b] w fun e w' => e = .returned (.bool true) ∧ w = w' := by
  have fa := feq6_self a
  have fb := feq6_self b
  cases h1 : isn6 a
  · cases h2 : isn6 b
    · rw [cn6_of_not h1, cn6_of_not h2] at hab
      subst hab
      rw [h1] at fa
      clear fb h2 h1
      cases hz : feq6 a 0
      · go_enter Try.func16, Try.ntmps16
        go_wp2
        all_goals (go_ret; exact ⟨by simp, rfl⟩)
      · have q0 := quo_zero false
        have q1 := quo_zero true
        simp at q0 q1
        rcases zero6 ha hz with rfl | rfl
        · have hq := fun (t : TypeId) (w : World) => run_float_arith (P := Try.prog) w .quo t .f64 _ _ _ q0
          clear ha
          go_enter Try.func16, Try.ntmps16
          go_wp2
          all_goals (go_ret; exact ⟨by simp, rfl⟩)
        · have hq := fun (t : TypeId) (w : World) => run_float_arith (P := Try.prog) w .quo t .f64 _ _ _ q1
          clear ha
          go_enter Try.func16, Try.ntmps16
          go_wp2
          all_goals (go_ret; exact ⟨by simp, rfl⟩)
    · rw [cn6_of_not h1, cn6_of_isn h2] at hab
      subst hab; rw [isn6_nanW6] at h1; cases h1
  · have h2 : isn6 b = true := by
      cases h2 : isn6 b
      · rw [cn6_of_isn h1, cn6_of_not h2] at hab
        subst hab; rw [isn6_nanW6] at h2; cases h2
      · rfl
    rw [h1] at fa
    rw [h2] at fb
    clear h1 h2 hab ha
    go_enter Try.func16, Try.ntmps16
    go_wp2
    all_goals (go_ret; exact ⟨by simp, rfl⟩)
end Go.Proofs.Ytidcnkjgbleoiaa
