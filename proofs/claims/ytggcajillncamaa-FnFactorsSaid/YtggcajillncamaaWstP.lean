/- Quotients of positive numbers: how great they are. The widest step between factors: plain. -/
import Derived.Test.YtggcajillncamaaMono
import Derived.Test.YtggcajillncamaaAllS
namespace Go.Proofs.Ytggcajillncamaa
open Ieee
set_option maxRecDepth 100000
/-- The next number is greater by a part of 2 ^ 24 and more. -/
theorem fval_step (y : Nat) : fval single y * 16777217 < fval single (y + 1) * 16777216 := by
  have e5 : single.binade = 8388608 := rfl
  unfold fval
  rw [e5]
  by_cases h1 : y < 8388608
  · rw [if_pos h1]
    by_cases h2 : y + 1 < 8388608
    · rw [if_pos h2]; omega
    · have : y = 8388607 := by omega
      subst this
      decide
  · rw [if_neg h1, if_neg (by omega)]
    have er := Nat.div_add_mod y 8388608
    have mr := Nat.mod_lt y (show 8388608 > 0 by omega)
    have key : ∀ a r : Nat, r < 8388608 → (8388608 + r) * 2 ^ a * 16777217 < (8388608 + r + 1) * 2 ^ a * 16777216 := by
      intro a r hr
      rw [Nat.mul_right_comm, Nat.mul_right_comm (8388608 + r + 1)]
      exact Nat.mul_lt_mul_of_pos_right (by omega) (Nat.two_pow_pos _)
    have hk := key (y / 8388608 - 1) (y % 8388608) mr
    have q1 : 1 ≤ y / 8388608 := by omega
    by_cases h3 : y % 8388608 + 1 = 8388608
    · have d1 : (y + 1) / 8388608 = y / 8388608 + 1 := by omega
      have d2 : (y + 1) % 8388608 = 0 := by omega
      rw [d1, d2, Nat.add_zero]
      have e6 : y / 8388608 + 1 - 1 = (y / 8388608 - 1) + 1 := by omega
      rw [e6, Nat.pow_succ]
      have e7 : 8388608 * (2 ^ (y / 8388608 - 1) * 2) = (8388608 + y % 8388608 + 1) * 2 ^ (y / 8388608 - 1) := by
        rw [Nat.mul_comm (2 ^ _) 2, ← Nat.mul_assoc]
        congr 1
        omega
      rw [e7]; exact hk
    · have d1 : (y + 1) / 8388608 = y / 8388608 := by omega
      have d2 : (y + 1) % 8388608 = y % 8388608 + 1 := by omega
      rw [d1, d2, ← Nat.add_assoc]; exact hk
theorem fval_gap {x y : Nat} (h : y < x) : fval single y * 16777217 < fval single x * 16777216 :=
  Nat.lt_of_lt_of_le (fval_step y) (Nat.mul_le_mul_right _ (fval_mono h))
/-- A finite number from nought up, read: its digits are 24 at most. -/
theorem nn_read24 {x : Nat} (h : x < infW) : ∃ m p, single.read x = .number false m p ∧ single.leastPlace ≤ p ∧ m * 2 ^ (p - single.leastPlace).toNat = fval single x ∧ m < 16777216 := by
  obtain ⟨m, p, e, hp, hv⟩ := nn_read h
  refine ⟨m, p, e, hp, hv, ?_⟩
  have hs : x % single.signWeight = x := nn_frung (show nn x by unfold nn; unfold infW at h; omega)
  have e5 : single.binade = 8388608 := rfl
  unfold Format.read at e
  dsimp only at e
  rw [hs, e5] at e
  by_cases h1 : x < 8388608
  · rw [if_pos h1] at e
    injection e with _ e1 _
    omega
  · rw [if_neg h1, if_pos (show x < single.infRung from h)] at e
    injection e with _ e1 _
    omega
theorem one_rungOf (c : Int) (b : Int) (v : Nat) (hv : v ≠ 0) (hc : b ≤ c) (hb : b ≤ single.leastPlace) : rungOf single b (v * 2 ^ (c - b).toNat) = single.nearest false v c := by
  have h1 := nearest_rungOf single false (m := v) hv c b hc hb
  rw [word_false] at h1
  exact h1.symm
/-- The quotient of two positive numbers. -/
theorem fdiv_pos {x y : Nat} (hx0 : 0 < x) (hx : x < infW) (hy0 : 0 < y) (hy : y < infW) : ∃ (S D n : Nat) (k b : Int) (m : Nat) (p q : Int),
    fdiv x y = rungOf single b (S * 2 ^ (-k - 1 - b).toNat) ∧ b ≤ -k - 1 ∧ b ≤ single.leastPlace ∧ S = 2 * (D / n) + (D % n != 0).toNat ∧ 0 < n ∧ n * 16777216 ≤ D ∧ D < n * 67108864 ∧ S ≠ 0 ∧
    D = m * 2 ^ (k - q + p).toNat ∧ 0 ≤ k - q + p ∧ single.leastPlace ≤ p ∧ single.leastPlace ≤ q ∧ m * 2 ^ (p - single.leastPlace).toNat = fval single x ∧ n * 2 ^ (q - single.leastPlace).toNat = fval single y := by
  obtain ⟨m, p, e, hp, hv, hm24⟩ := nn_read24 hx
  obtain ⟨n, q, e2, hq, hu, hn24⟩ := nn_read24 hy
  have hn : n ≠ 0 := by
    rintro rfl
    have := fval_pos hy0
    rw [← hu, Nat.zero_mul] at this
    exact absurd this (Nat.lt_irrefl _)
  have hm : m ≠ 0 := by
    rintro rfl
    have := fval_pos hx0
    rw [← hv, Nat.zero_mul] at this
    exact absurd this (Nat.lt_irrefl _)
  have e5 : single.fractionBits = 23 := rfl
  have hml : m.log2 < 24 := (Nat.log2_lt hm).2 (by omega)
  have hn1 := Nat.log2_self_le hn
  have hn2 : n < 2 ^ (n.log2 + 1) := (Nat.log2_lt hn).1 (Nat.lt_succ_self _)
  have hm1 := Nat.log2_self_le hm
  have hm2 : m < 2 ^ (m.log2 + 1) := (Nat.log2_lt hm).1 (Nat.lt_succ_self _)
  obtain ⟨more, hmore⟩ : ∃ more, single.fractionBits + 2 + n.log2 - m.log2 = more := ⟨_, rfl⟩
  have hmo : more + m.log2 = 25 + n.log2 := by rw [e5] at hmore; omega
  have hD1 : n * 16777216 ≤ m * 2 ^ more := by
    have h1 : 2 ^ m.log2 * 2 ^ more ≤ m * 2 ^ more := Nat.mul_le_mul_right _ hm1
    rw [← Nat.pow_add, Nat.add_comm, hmo] at h1
    have h2 : 2 ^ (25 + n.log2) = 2 ^ (n.log2 + 1) * 16777216 := by rw [show 25 + n.log2 = (n.log2 + 1) + 24 from by omega, Nat.pow_add]
    rw [h2] at h1
    exact Nat.le_trans (Nat.mul_le_mul_right _ (Nat.le_of_lt hn2)) h1
  have hD2 : m * 2 ^ more < n * 67108864 := by
    have h1 : m * 2 ^ more < 2 ^ (m.log2 + 1) * 2 ^ more := Nat.mul_lt_mul_of_pos_right hm2 (Nat.two_pow_pos _)
    rw [← Nat.pow_add, show m.log2 + 1 + more = n.log2 + 26 from by omega, Nat.pow_add] at h1
    exact Nat.lt_of_lt_of_le h1 (Nat.mul_le_mul_right _ hn1)
  refine ⟨2 * (m * 2 ^ more / n) + (m * 2 ^ more % n != 0).toNat, m * 2 ^ more, n, q - p + more, min (-(q - p + (more : Int)) - 1) single.leastPlace, m, p, q, ?_, by omega, by omega, rfl, by omega, hD1, hD2, ?_, ?_, by omega, hp, hq, hv, hu⟩
  · have hz : 2 * (m * 2 ^ more / n) + (m * 2 ^ more % n != 0).toNat ≠ 0 := by
      have : 16777216 ≤ m * 2 ^ more / n := (Nat.le_div_iff_mul_le (by omega)).2 (by rw [Nat.mul_comm]; exact hD1)
      omega
    unfold fdiv Format.div
    rw [e, e2, quot_pos _ _ _ _ _ hn, getD_map_some, write_number, hmore, Nat.shiftLeft_eq]
    rw [show p - q - (more : Int) - 1 = -(q - p + (more : Int)) - 1 from by omega]
    rw [nearest_rungOf single false hz _ (min (-(q - p + (more : Int)) - 1) single.leastPlace) (by omega) (by omega), word_false]
  · have : 16777216 ≤ m * 2 ^ more / n := (Nat.le_div_iff_mul_le (by omega)).2 (by rw [Nat.mul_comm]; exact hD1)
    omega
  · rw [show (q - p + (more : Int) - q + p).toNat = more from by omega]
/-- The digits' order out of the numbers'. -/
theorem scale_lt {m n u v : Nat} {p q L k : Int} {a b : Nat} (hp : L ≤ p) (hq : L ≤ q) (hv : m * 2 ^ (p - L).toNat = a) (hu : n * 2 ^ (q - L).toNat = b) (hk : 0 ≤ k - q + p) (h : b * v < a * u) (hk0 : 0 ≤ k) :
    n * v * 2 ^ k.toNat < m * 2 ^ (k - q + p).toNat * u := by
  have h2 : n * v * 2 ^ k.toNat * 2 ^ (q - L).toNat < m * 2 ^ (k - q + p).toNat * u * 2 ^ (q - L).toNat := by
    have e1 : n * v * 2 ^ k.toNat * 2 ^ (q - L).toNat = b * v * 2 ^ k.toNat := by
      rw [← hu, Nat.mul_right_comm n v, Nat.mul_right_comm (n * 2 ^ k.toNat) v, Nat.mul_right_comm n (2 ^ k.toNat), Nat.mul_right_comm (n * 2 ^ (q - L).toNat) (2 ^ k.toNat) v]
    have e2 : m * 2 ^ (k - q + p).toNat * u * 2 ^ (q - L).toNat = a * u * 2 ^ k.toNat := by
      rw [← hv, Nat.mul_right_comm m _ u, Nat.mul_assoc (m * u), ← Nat.pow_add, Nat.mul_right_comm m _ u, Nat.mul_assoc (m * u), ← Nat.pow_add]
      congr 2
      omega
    rw [e1, e2]
    exact Nat.mul_lt_mul_of_pos_right h (Nat.two_pow_pos _)
  exact Nat.lt_of_mul_lt_mul_right h2
/-- A quotient of a number by a less one is more than one. -/
theorem fdiv_gt_one {x y : Nat} (h0 : 0 < y) (hx : x < infW) (h : y < x) : 1065353216 < fdiv x y := by
  obtain ⟨S, D, n, k, b, m, p, q, e, hb1, hb2, hS, hn, hD1, hD2, hS0, hD, hk, hp, hq, hv, hu⟩ := fdiv_pos (by omega) hx h0 (by omega)
  have hlp : single.leastPlace = -149 := by decide
  have hq24 : 16777216 ≤ D / n := (Nat.le_div_iff_mul_le hn).2 (by rw [Nat.mul_comm]; exact hD1)
  have hb0 : b ≤ -26 := by omega
  have key : 67108869 * 2 ^ (-26 - b).toNat ≤ S * 2 ^ (-k - 1 - b).toNat := by
    rcases Int.lt_or_le k 24 with h1 | h1
    · have e6 : (-k - 1 - b).toNat = (23 - k).toNat + (2 + (-26 - b).toNat) := by omega
      rw [e6, Nat.pow_add, Nat.pow_add, ← Nat.mul_assoc, ← Nat.mul_assoc]
      refine Nat.mul_le_mul_right _ ?_
      have h2 : S * 1 ≤ S * 2 ^ (23 - k).toNat := Nat.mul_le_mul_left _ (Nat.two_pow_pos _)
      omega
    · have hg := scale_lt hp hq hv hu hk (fval_gap h) (by omega)
      rw [← hD] at hg
      rcases Int.lt_or_le k 25 with h2 | h2
      · have : k = 24 := by omega
        subst this
        have hT : 16777217 ≤ D / n := (Nat.le_div_iff_mul_le hn).2 (by
          have e7 : (24 : Int).toNat = 24 := rfl
          rw [e7] at hg
          omega)
        have hS2 : 33554435 ≤ S := by
          by_cases hz : D / n = 16777217
          · have hr : D % n ≠ 0 := by
              intro hr
              have := Nat.div_add_mod D n
              rw [hz, hr] at this
              have e7 : (24 : Int).toNat = 24 := rfl
              rw [e7] at hg
              omega
            have : (D % n != 0).toNat = 1 := by simp [hr]
            omega
          · omega
        have e6 : (-24 - 1 - b).toNat = 1 + (-26 - b).toNat := by omega
        rw [e6, Nat.pow_add, ← Nat.mul_assoc]
        exact Nat.mul_le_mul_right _ (by omega)
      · rcases Int.lt_or_le k 26 with h3 | h3
        · have : k = 25 := by omega
          subst this
          have hT : 33554434 ≤ D / n := (Nat.le_div_iff_mul_le hn).2 (by
            have e7 : (25 : Int).toNat = 25 := rfl
            rw [e7] at hg
            omega)
          have hS2 : 67108869 ≤ S := by
            by_cases hz : D / n = 33554434
            · have hr : D % n ≠ 0 := by
                intro hr
                have := Nat.div_add_mod D n
                rw [hz, hr] at this
                have e7 : (25 : Int).toNat = 25 := rfl
                rw [e7] at hg
                omega
              have : (D % n != 0).toNat = 1 := by simp [hr]
              omega
            · omega
          have e6 : (-25 - 1 - b).toNat = (-26 - b).toNat := by omega
          rw [e6]
          exact Nat.mul_le_mul_right _ hS2
        · exfalso
          have e7 : k.toNat = 26 + (k.toNat - 26) := by omega
          rw [e7, Nat.pow_add, ← Nat.mul_assoc] at hg
          have h4 : n * 16777217 * 2 ^ 26 * 1 ≤ n * 16777217 * 2 ^ 26 * 2 ^ (k.toNat - 26) := Nat.mul_le_mul_left _ (Nat.two_pow_pos _)
          omega
  have hr := rungOf_mono single hb2 (Nat.mul_ne_zero (by omega) (Nat.pos_iff_ne_zero.1 (Nat.two_pow_pos _))) key
  rw [one_rungOf (-26) b 67108869 (by omega) hb0 hb2] at hr
  rw [e]
  have : single.nearest false 67108869 (-26) = 1065353217 := by decide
  omega
/-- A quotient of numbers whose ratio is at least a part of 256 is no nought. -/
theorem fdiv_ge {x y : Nat} (h0 : 0 < y) (hx0 : 0 < x) (hx : x < infW) (hy : y < infW) (h : fval single y < fval single x * 512) : 0 < fdiv x y := by
  obtain ⟨S, D, n, k, b, m, p, q, e, hb1, hb2, hS, hn, hD1, hD2, hS0, hD, hk, hp, hq, hv, hu⟩ := fdiv_pos hx0 hx h0 hy
  have hlp : single.leastPlace = -149 := by decide
  have hq24 : 16777216 ≤ D / n := (Nat.le_div_iff_mul_le hn).2 (by rw [Nat.mul_comm]; exact hD1)
  have key : 1 * 2 ^ (-100 - b).toNat ≤ S * 2 ^ (-k - 1 - b).toNat := by
    rcases Int.lt_or_le k 100 with h1 | h1
    · have e6 : (-k - 1 - b).toNat = (99 - k).toNat + (-100 - b).toNat := by omega
      rw [e6, Nat.pow_add, ← Nat.mul_assoc]
      refine Nat.mul_le_mul_right _ ?_
      have h2 : S * 1 ≤ S * 2 ^ (99 - k).toNat := Nat.mul_le_mul_left _ (Nat.two_pow_pos _)
      omega
    · exfalso
      have hg := scale_lt (u := 512) (v := 1) hp hq hv hu hk (by omega) (by omega)
      rw [← hD, Nat.mul_one] at hg
      have e7 : k.toNat = 100 + (k.toNat - 100) := by omega
      rw [e7, Nat.pow_add, ← Nat.mul_assoc] at hg
      have h4 : n * 2 ^ 100 * 1 ≤ n * 2 ^ 100 * 2 ^ (k.toNat - 100) := Nat.mul_le_mul_left _ (Nat.two_pow_pos _)
      omega
  have hr := rungOf_mono single hb2 (Nat.mul_ne_zero (by omega) (Nat.pos_iff_ne_zero.1 (Nat.two_pow_pos _))) key
  rw [one_rungOf (-100) b 1 (by omega) (by omega) hb2] at hr
  rw [e]
  have : single.nearest false 1 (-100) = 226492416 := by decide
  omega
/-- A quotient of numbers whose ratio is no more than 2 ^ 8 is finite. -/
theorem fdiv_fin {x y : Nat} (h0 : 0 < y) (hx0 : 0 < x) (hx : x < infW) (hy : y < infW) (h : fval single x ≤ fval single y * 256) : fdiv x y < infW := by
  obtain ⟨S, D, n, k, b, m, p, q, e, hb1, hb2, hS, hn, hD1, hD2, hS0, hD, hk, hp, hq, hv, hu⟩ := fdiv_pos hx0 hx h0 hy
  have hlp : single.leastPlace = -149 := by decide
  have hSs : S ≤ 134217728 := by
    have : D / n < 67108864 := (Nat.div_lt_iff_lt_mul hn).2 (by rw [Nat.mul_comm]; exact hD2)
    have h1 : (D % n != 0).toNat ≤ 1 := by cases (D % n != 0) <;> simp
    omega
  have key : S * 2 ^ (-k - 1 - b).toNat ≤ 134217728 * 2 ^ (70 - b).toNat := by
    rcases Int.lt_or_le k (-71) with h1 | h1
    · exfalso
      -- D is 2 ^ (k - q + p) m, and more than n 2 ^ 24
      have h5 : D * 2 ^ (q - single.leastPlace).toNat * 2 ^ (-k).toNat = fval single x := by
        rw [hD, ← hv, Nat.mul_assoc, Nat.mul_assoc, ← Nat.pow_add, ← Nat.pow_add]
        congr 2
        omega
      have h6 : n * 16777216 * 2 ^ (q - single.leastPlace).toNat * 2 ^ (-k).toNat ≤ D * 2 ^ (q - single.leastPlace).toNat * 2 ^ (-k).toNat := Nat.mul_le_mul_right _ (Nat.mul_le_mul_right _ hD1)
      rw [Nat.mul_right_comm n, hu, h5] at h6
      have h7 : fval single y * 16777216 * 1 ≤ fval single y * 16777216 * 2 ^ (-k).toNat := Nat.mul_le_mul_left _ (Nat.two_pow_pos _)
      have := fval_pos h0
      omega
    · refine Nat.mul_le_mul hSs (Nat.pow_le_pow_right (by omega) ?_)
      omega
  have hr := rungOf_mono single hb2 (Nat.mul_ne_zero hS0 (Nat.pos_iff_ne_zero.1 (Nat.two_pow_pos _))) key
  rw [one_rungOf 70 b 134217728 (by omega) (by omega) hb2] at hr
  rw [e]
  have : single.nearest false 134217728 70 < 2139095040 := by decide
  unfold infW
  omega
end Go.Proofs.Ytggcajillncamaa
namespace Go.Proofs.Ytggcajillncamaa
open Ieee
set_option maxRecDepth 100000
theorem fi_ups : ((List.range 200).all fun n => decide (fi (n : Nat) < fi ((n + 1 : Nat) : Int))) = true := by kernel_rfl
theorem fi_up {n : Nat} (h : n < 200) : fi (n : Nat) < fi ((n + 1 : Nat) : Int) := of_decide_eq_true (List.all_eq_true.1 fi_ups n (List.mem_range.2 h))
theorem fi_mono_nat (m : Nat) : ∀ k, m + k + 1 ≤ 200 → fi (m : Nat) < fi ((m + k + 1 : Nat) : Int)
  | 0, h => fi_up (by omega)
  | k + 1, h => Nat.lt_trans (fi_mono_nat m k (by omega)) (fi_up (n := m + k + 1) (by omega))
/-- Whole numbers keep their order as floats. -/
theorem fi_lt_fi {m n : Int} (h0 : 0 ≤ m) (h : m < n) (h1 : n ≤ 200) : fi m < fi n := by
  have := fi_mono_nat m.toNat (n.toNat - m.toNat - 1) (by omega)
  have e1 : ((m.toNat : Nat) : Int) = m := by omega
  have e2 : ((m.toNat + (n.toNat - m.toNat - 1) + 1 : Nat) : Int) = n := by omega
  rwa [e1, e2] at this
theorem fi_le_fi {m n : Int} (h0 : 0 ≤ m) (h : m ≤ n) (h1 : n ≤ 200) : fi m ≤ fi n := by
  rcases Int.lt_or_le m n with h2 | h2
  · exact Nat.le_of_lt (fi_lt_fi h0 h2 h1)
  · have : m = n := by omega
    rw [this]; exact Nat.le_refl _
theorem fval_200 : fval single (fi 200) ≤ fval single (fi 1) * 256 := of_decide_eq_true (by kernel_rfl)
theorem fval_ratio {p q : Int} (h1 : 1 ≤ p) (h2 : p ≤ 200) (h3 : 1 ≤ q) (h4 : q ≤ 200) : fval single (fi p) ≤ fval single (fi q) * 256 :=
  Nat.le_trans (fval_mono (fi_le_fi (by omega) h2 (Int.le_refl _))) (Nat.le_trans fval_200 (Nat.mul_le_mul_right _ (fval_mono (fi_le_fi (by omega) h3 h4))))
theorem upV_pos {p q : Int} (h1 : 1 ≤ p) (h2 : p ≤ 200) (h3 : 1 ≤ q) (h4 : q ≤ 200) : 0 < upV p q :=
  fdiv_ge (fi_gt0 h3 h4) (fi_gt0 h1 h2) (fi_inf (by omega) h2) (fi_inf (by omega) h4) (by
    have := fval_ratio h3 h4 h1 h2
    have := fval_pos (fi_gt0 h1 h2)
    omega)
theorem upV_fin {p q : Int} (h1 : 1 ≤ p) (h2 : p ≤ 200) (h3 : 1 ≤ q) (h4 : q ≤ 200) : upV p q < infW :=
  fdiv_fin (fi_gt0 h3 h4) (fi_gt0 h1 h2) (fi_inf (by omega) h2) (fi_inf (by omega) h4) (fval_ratio h1 h2 h3 h4)
theorem upV_gt {p q : Int} (h1 : 1 ≤ q) (h2 : q < p) (h3 : p ≤ 200) : 1065353216 < upV p q :=
  fdiv_gt_one (fi_gt0 h1 (by omega)) (fi_inf (by omega) h3) (fi_lt_fi (by omega) h2 h3)
theorem upV_le {p q : Int} (h1 : 1 ≤ p) (h2 : p ≤ q) (h3 : q ≤ 200) : upV p q ≤ 1065353216 :=
  (fdiv_le_one (fi_gt0 (by omega) h3) (fi_inf (by omega) h3) (fi_le_fi (by omega) h2 h3)).2
/-- All numbers of a list are positive and finite. -/
def allPos (l : List Nat) : Prop := ∀ v ∈ l, 0 < v ∧ v < infW
theorem fq_pos {l : List Int} (h : allW l) {a b : Nat} (ha : a < l.length) (hb : b < l.length) : 0 < fq l a b ∧ fq l a b < infW := by
  have h1 := h a ha
  have h2 := h b hb
  exact ⟨upV_pos (by omega) h1.2 (by omega) h2.2, upV_fin (by omega) h1.2 (by omega) h2.2⟩
theorem qsRow_mem {l : List Int} {a b : Nat} (hab : a ≠ b) : ∀ {k}, b < k → fq l a b ∈ qsRow l a k
  | k + 1, h => by
    unfold qsRow
    by_cases e : b = k
    · subst e
      rw [if_neg hab]
      simp
    · have := qsRow_mem (l := l) hab (k := k) (by omega)
      split
      · exact this
      · exact List.mem_append_left _ this
theorem qsTo_mem {l : List Int} {x : Nat} {a : Nat} (hx : x ∈ qsRow l a l.length) : ∀ {k}, a < k → x ∈ qsTo l k
  | k + 1, h => by
    rw [qsTo]
    by_cases e : a = k
    · subst e; exact List.mem_append_right _ hx
    · exact List.mem_append_left _ (qsTo_mem hx (by omega))
theorem qs_mem {l : List Int} {a b : Nat} (ha : a < l.length) (hb : b < l.length) (hab : a ≠ b) : fq l a b ∈ qs l := qsTo_mem (qsRow_mem hab hb) ha
theorem mem_qsRow {l : List Int} {a x : Nat} : ∀ {k}, x ∈ qsRow l a k → ∃ b, b < k ∧ a ≠ b ∧ x = fq l a b
  | 0, h => by cases h
  | k + 1, h => by
    unfold qsRow at h
    split at h
    · obtain ⟨b, h1, h2⟩ := mem_qsRow h
      exact ⟨b, by omega, h2⟩
    · rcases List.mem_append.1 h with h | h
      · obtain ⟨b, h1, h2⟩ := mem_qsRow h
        exact ⟨b, by omega, h2⟩
      · exact ⟨k, by omega, by assumption, List.mem_singleton.1 h⟩
theorem mem_qsTo {l : List Int} {x : Nat} : ∀ {k}, x ∈ qsTo l k → ∃ a b, a < k ∧ b < l.length ∧ a ≠ b ∧ x = fq l a b
  | 0, h => by cases h
  | k + 1, h => by
    rw [qsTo] at h
    rcases List.mem_append.1 h with h | h
    · obtain ⟨a, b, h1, h2⟩ := mem_qsTo h
      exact ⟨a, b, by omega, h2⟩
    · obtain ⟨b, h1, h2⟩ := mem_qsRow h
      exact ⟨k, b, by omega, h1, h2⟩
theorem mem_qs {l : List Int} {x : Nat} (h : x ∈ qs l) : ∃ a b, a < l.length ∧ b < l.length ∧ a ≠ b ∧ x = fq l a b := mem_qsTo h
theorem qs_nn' {l : List Int} (h : allW l) : allNn (qs l) := qsTo_nn h l.length (Nat.le_refl _)
theorem nil_nn : allNn [] := fun x hx => by cases hx
theorem allF_mem {l : List Int} (h : allW l) (x : Nat) : x ∈ allF l ↔ x ∈ qs l := by
  have := (insA_spec (qs l) (out := []) (qs_nn' h) nil_nn List.Pairwise.nil).2.2 x
  unfold allF
  rw [this]
  simp
theorem allF_asc {l : List Int} (h : allW l) : asc (allF l) := (insA_spec (qs l) (out := []) (qs_nn' h) nil_nn List.Pairwise.nil).1
theorem allF_pos {l : List Int} (h : allW l) : allPos (allF l) := by
  intro v hv
  obtain ⟨a, b, h1, h2, _, rfl⟩ := mem_qs ((allF_mem h v).1 hv)
  exact fq_pos h h1 h2
/-- A valid box ascends. -/
theorem box_up {l : List Int} (h : boxOk l = true) {k : Nat} (hk : k + 1 < l.length) : l.getD k 0 < l.getD (k + 1) 0 := by
  rcases Int.lt_or_le (l.getD k 0) (l.getD (k + 1) 0) with h1 | h1
  · exact h1
  · rw [boxOk_order hk h1] at h; cases h
theorem box_lt {l : List Int} (h : boxOk l = true) {a : Nat} : ∀ {b : Nat}, a < b → b < l.length → l.getD a 0 < l.getD b 0
  | b + 1, h1, h2 => by
    have h3 := box_up h h2
    by_cases e : a = b
    · subst e; exact h3
    · exact Int.lt_trans (box_lt h (show a < b by omega) (by omega)) h3
theorem two_of {l : List Nat} {x y : Nat} (hx : x ∈ l) (hy : y ∈ l) (h : x ≠ y) : 2 ≤ l.length := by
  match l, hx, hy with
  | [a], hx, hy =>
    rw [List.mem_singleton] at hx hy
    exact absurd (hx.trans hy.symm) h
  | _ :: _ :: _, _, _ => simp
theorem allF_two {l : List Int} (h : boxOk l = true) : 2 ≤ (allF l).length := by
  obtain ⟨hw, h2, _⟩ := allW_of h
  have h3 := box_lt h (show 0 < 1 by omega) (by omega)
  have w0 := hw 0 (by omega)
  have w1 := hw 1 (by omega)
  have g1 : fq l 0 1 ≤ 1065353216 := upV_le (by omega) (by omega) w1.2
  have g2 : 1065353216 < fq l 1 0 := upV_gt (by omega) h3 w1.2
  exact two_of ((allF_mem hw _).2 (qs_mem (show 0 < l.length by omega) (show 1 < l.length by omega) (by omega))) ((allF_mem hw _).2 (qs_mem (show 1 < l.length by omega) (show 0 < l.length by omega) (by omega))) (by omega)
theorem getD_mem {l : List Nat} {i : Nat} (h : i < l.length) : l.getD i 0 ∈ l := by
  rw [List.getD_eq_getElem?_getD, List.getElem?_eq_getElem h]; exact List.getElem_mem h
theorem asc_lt {l : List Nat} (h : asc l) {i j : Nat} (hij : i < j) (hj : j < l.length) : l.getD i 0 < l.getD j 0 := by
  rw [List.getD_eq_getElem?_getD, List.getD_eq_getElem?_getD, List.getElem?_eq_getElem hj, List.getElem?_eq_getElem (show i < l.length by omega)]
  exact List.pairwise_iff_getElem.1 h i j (by omega) hj hij
/-- The step up to the k-th factor. -/
def stp (F : List Nat) (k : Nat) : Nat := fdiv (F.getD k 0) (F.getD (k - 1) 0)
theorem stp_gt {F : List Nat} (h1 : asc F) (h2 : allPos F) {k : Nat} (h0 : 1 ≤ k) (hk : k < F.length) : 1065353216 < stp F k :=
  fdiv_gt_one (h2 _ (getD_mem (by omega))).1 (h2 _ (getD_mem hk)).2 (asc_lt h1 (by omega) hk)
theorem stp_nn {F : List Nat} (h2 : allPos F) {k : Nat} (h0 : 1 ≤ k) (hk : k < F.length) : nn (stp F k) :=
  nn_fdiv (h2 _ (getD_mem hk)).2 (h2 _ (getD_mem (by omega))).1 (h2 _ (getD_mem (by omega))).2
/-- The place and the size of the widest step among the first k + 1 ones. -/
def wid (F : List Nat) : Nat → Nat × Nat
  | 0 => (1, stp F 1)
  | k + 1 => if flt (wid F k).2 (stp F (k + 2)) = true then (k + 2, stp F (k + 2)) else wid F k
theorem wid_le (F : List Nat) : ∀ k, 1 ≤ (wid F k).1 ∧ (wid F k).1 ≤ k + 1
  | 0 => ⟨Nat.le_refl _, Nat.le_refl _⟩
  | k + 1 => by
    have := wid_le F k
    unfold wid
    split
    · exact ⟨by show 1 ≤ k + 2; omega, by show k + 2 ≤ k + 1 + 1; omega⟩
    · omega
theorem wid_nn {F : List Nat} (h2 : allPos F) : ∀ k, k + 1 < F.length → nn (wid F k).2
  | 0, h => stp_nn h2 (by omega) h
  | k + 1, h => by
    have := wid_nn h2 k (by omega)
    unfold wid
    split
    · exact stp_nn h2 (by omega) h
    · exact this
end Go.Proofs.Ytggcajillncamaa
