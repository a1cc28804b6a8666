/- Halving: the middle of two numbers lies between them; a search by halves. -/
import Derived.Test.YthdmfmhhnacgfaaMono
import Derived.Test.YthdmfmhhnacgfaaLone
namespace Go.Proofs.Ythdmfmhhnacgfaa
open Ieee
set_option maxRecDepth 100000

theorem nn_read2 {x : Nat} (h : x < infW) : ∃ m p, single.read x = .number false m p ∧ single.leastPlace ≤ p ∧ m * 2 ^ (p - single.leastPlace).toNat = fval single x ∧ m < 16777216 := by
  unfold infW at h
  have e0 : single.signWeight = 2147483648 := rfl
  have e1 : single.binade = 8388608 := rfl
  have e2 : single.infRung = 2139095040 := rfl
  have hneg : (x / single.signWeight % 2 == 1) = false := by rw [e0, Nat.div_eq_of_lt (by omega)]; rfl
  have hr : x % single.signWeight = x := by rw [e0]; exact Nat.mod_eq_of_lt (by omega)
  unfold Format.read fval
  dsimp only
  rw [hneg, hr, e1, e2]
  by_cases h1 : x < 8388608
  · rw [if_pos h1, if_pos h1]
    exact ⟨_, _, rfl, Int.le_refl _, by simp, by omega⟩
  · rw [if_neg h1, if_pos (by omega), if_neg h1]
    refine ⟨_, _, rfl, by omega, ?_, by omega⟩
    congr 2
    omega
theorem rungOf_scale {n : Nat} (hn : n ≠ 0) {b b' : Int} (h : b' ≤ b) (hl : b ≤ single.leastPlace) : rungOf single b n = rungOf single b' (n * 2 ^ (b - b').toNat) := by
  have h1 := nearest_rungOf single false hn b b (Int.le_refl _) hl
  have h2 := nearest_rungOf single false hn b b' h (Int.le_trans h hl)
  rw [h1, word_false, word_false, show (b - b).toNat = 0 from by omega, Nat.pow_zero, Nat.mul_one] at h2
  exact h2
/-- A half. -/
def halfR (x : Nat) : Nat := if x = 0 then 0 else rungOf single (single.leastPlace - 1) (fval single x)
theorem fdiv_two {x : Nat} (h : x < infW) : fdiv x 1073741824 = halfR x := by
  obtain ⟨m, p, e, hp, hv, hm⟩ := nn_read2 h
  have e2 : single.read 1073741824 = .number false 8388608 (-22) := by decide
  have hl : Nat.log2 8388608 = 23 := by decide
  have e5 : single.fractionBits = 23 := rfl
  unfold fdiv Format.div halfR
  rw [e, e2, quot_pos _ _ _ _ _ (by decide), getD_map_some, write_number, hl, e5]
  by_cases hz : m = 0
  · subst hz
    rw [Nat.zero_mul] at hv
    have hx : x = 0 := by
      rcases Nat.eq_zero_or_pos x with h0 | h0
      · exact h0
      · have := fval_pos h0; omega
    rw [if_pos hx]
    have hs : 2 * (0 <<< (23 + 2 + 23 - Nat.log2 0) / 8388608) + (0 <<< (23 + 2 + 23 - Nat.log2 0) % 8388608 != 0).toNat = 0 := by simp
    rw [hs]
    exact nearest_zero _
  · have hx : x ≠ 0 := by
      rintro rfl
      rw [fval_zero] at hv
      rcases Nat.mul_eq_zero.1 hv with h | h
      · exact hz h
      · exact absurd h (Nat.pos_iff_ne_zero.1 (Nat.two_pow_pos _))
    rw [if_neg hx]
    have hlog : m.log2 ≤ 23 := by
      have := (Nat.log2_lt hz).2 (show m < 2 ^ 24 from hm)
      omega
    obtain ⟨k, hk⟩ : ∃ k, 23 + 2 + 23 - m.log2 = k + 23 := ⟨25 - m.log2, by omega⟩
    have hk2 : k ≤ 25 := by omega
    rw [hk]
    have hs : m <<< (k + 23) = m * 2 ^ k * 8388608 := by rw [Nat.shiftLeft_eq, Nat.pow_add, ← Nat.mul_assoc]
    rw [hs, Nat.mul_div_cancel _ (by decide), Nat.mul_mod_left]
    have hn2 : 2 * (m * 2 ^ k) ≠ 0 := by
      have : m * 2 ^ k ≠ 0 := Nat.mul_ne_zero hz (Nat.pos_iff_ne_zero.1 (Nat.two_pow_pos _))
      omega
    have h0 : ((0 : Nat) != 0).toNat = 0 := rfl
    rw [h0, Nat.add_zero]
    have hL : single.leastPlace ≤ 0 := by decide
    have hfx : fval single x ≠ 0 := by have := fval_pos (Nat.pos_of_ne_zero hx); omega
    rw [nearest_rungOf single false hn2 _ (single.leastPlace - 30) (by omega) (by omega), word_false, rungOf_scale hfx (show single.leastPlace - 30 ≤ single.leastPlace - 1 by omega) (by omega)]
    congr 1
    rw [← hv]
    generalize single.leastPlace = L at *
    have e6 : (p - -22 - ((k + 23 : Nat) : Int) - 1 - (L - 30)).toNat + (k + 1) = (p - L).toNat + (L - 1 - (L - 30)).toNat := by omega
    rw [Nat.mul_assoc m, ← Nat.pow_add, ← e6, Nat.pow_add, Nat.pow_succ]
    generalize 2 ^ (p - -22 - ((k + 23 : Nat) : Int) - 1 - (L - 30)).toNat = U
    generalize 2 ^ k = V
    rw [Nat.mul_comm 2 (m * V), Nat.mul_assoc m V 2, Nat.mul_assoc m (V * 2) U, Nat.mul_comm (V * 2) U]
theorem halfR_mono {x y : Nat} (h : x ≤ y) : halfR x ≤ halfR y := by
  unfold halfR
  by_cases hx : x = 0
  · rw [if_pos hx]; omega
  · rw [if_neg hx, if_neg (by omega)]
    exact rungOf_mono single (by omega) (by have := fval_pos (x := x) (by omega); omega) (fval_mono h)
theorem fval_twice {a : Nat} (h : 8388608 ≤ a) : fval single (a + 8388608) = fval single a + fval single a := by
  have e1 : single.binade = 8388608 := rfl
  unfold fval
  rw [e1, if_neg (by omega), if_neg (by omega), Nat.add_div_right _ (by decide), Nat.add_mod_right]
  obtain ⟨q, hq⟩ : ∃ q, a / 8388608 = q + 1 := ⟨a / 8388608 - 1, by have := (Nat.one_le_div_iff (show 0 < 8388608 by decide)).2 h; omega⟩
  rw [hq, show (q + 1).succ - 1 = q + 1 by omega, show q + 1 - 1 = q by omega, Nat.pow_succ]
  generalize 2 ^ q = U
  generalize 8388608 + a % 8388608 = V
  rw [← Nat.mul_assoc]
  omega
theorem halfR_twice {a : Nat} (h : 8388608 ≤ a) (hi : a + 8388608 < infW) : halfR (a + 8388608) = a := by
  unfold halfR
  have h0 : fval single a ≠ 0 := by have := fval_pos (x := a) (by omega); omega
  rw [if_neg (by omega), fval_twice h]
  have e : fval single a + fval single a = fval single a * 2 ^ (single.leastPlace - (single.leastPlace - 1)).toNat := by
    rw [show (single.leastPlace - (single.leastPlace - 1)).toNat = 1 by omega]; omega
  rw [e, ← rungOf_scale h0 (by omega) (Int.le_refl _)]
  exact rungOf_self (by omega) (by omega)
theorem fadd_twice {a : Nat} (h : 8388608 ≤ a) (hi : a + 8388608 < infW) : fadd a a = a + 8388608 := by
  have hn : nn a := by unfold nn; unfold infW at hi; omega
  rw [fadd_nn hn hn]
  unfold addR
  rw [if_neg (by rintro (h | h) <;> omega), if_neg (by have := fval_pos (x := a) (by omega); omega), ← fval_twice h]
  exact rungOf_self (by omega) hi
/-- The middle lies between. -/
theorem half_between {a b : Nat} (h : 8388608 ≤ a) (hab : a ≤ b) (hi : b + 8388608 < infW) : a ≤ half a b ∧ half a b ≤ b := by
  have hb : nn b := by unfold nn; unfold infW at hi; omega
  have h1 := fadd_mono hb hb hab (Nat.le_refl b)
  have h2 := fadd_mono (x := a) (y := a) (Nat.le_trans hab hb) hb (Nat.le_refl a) hab
  rw [fadd_twice (by omega) hi] at h1
  rw [fadd_twice h (by omega)] at h2
  unfold half
  rw [fdiv_two (by omega)]
  constructor
  · have := halfR_mono h2
    rwa [halfR_twice h (by omega)] at this
  · have := halfR_mono h1
    rwa [halfR_twice (by omega) hi] at this
theorem bis_between {g : Nat → Bool} {lo hi : Nat} (h0 : 8388608 ≤ lo) (h1 : hi + 8388608 < infW) : ∀ d a b : Nat, lo ≤ a → a < b → b ≤ hi → g a = true → g b = false →
    g (bis g d a b) = true ∧ lo ≤ bis g d a b ∧ bis g d a b < hi := by
  intro d
  induction d with
  | zero => intro a b h2 h3 h4 h5 _; exact ⟨h5, h2, by show a < hi; omega⟩
  | succ d ih =>
    intro a b h2 h3 h4 h5 h6
    obtain ⟨m1, m2⟩ := half_between (a := a) (b := b) (by omega) (by omega) (by omega)
    rw [bis]
    by_cases hg : g (half a b) = true
    · rw [if_pos hg]
      have : half a b ≠ b := fun e => by rw [e, h6] at hg; cases hg
      exact ih _ _ (by omega) (by omega) h4 hg h6
    · rw [if_neg hg]
      have hg' : g (half a b) = false := by simpa using hg
      have : half a b ≠ a := fun e => by rw [e, h5] at hg'; cases hg'
      exact ih _ _ h2 (by omega) (by omega) h5 hg'
end Go.Proofs.Ythdmfmhhnacgfaa
