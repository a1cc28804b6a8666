/- Plain facts about the words of a binary floating-point format: which words are NaNs, that a rounded number is none, and that a number that is read and written again gives its word. Conditions: the format has at least one finite binade. -/
import Derived.Laws.FloatBits
namespace Go.Proofs.Ythdmfmhhnacgfaa
open Ieee

theorem log2_mul_pow {m : Nat} (hm : m ≠ 0) (j : Nat) : (m * 2 ^ j).log2 = m.log2 + j := by
  induction j with
  | zero => simp
  | succ j ih =>
    have h2 : 0 < 2 ^ j := Nat.two_pow_pos _
    rw [show m * 2 ^ (j + 1) = 2 * (m * 2 ^ j) from by rw [Nat.pow_succ]; simp [Nat.mul_comm, Nat.mul_left_comm], Nat.log2_two_mul (Nat.mul_ne_zero hm (by omega)), ih]
    omega

theorem binade_pos (f : Format) : 0 < f.binade := Nat.two_pow_pos _

theorem read_isNaN (f : Format) (hb : f.binade ≤ f.infRung) (x : Nat) : (f.read x).isNaN = decide (f.infRung < x % f.signWeight) := by
  unfold Format.read
  dsimp only
  split
  · simp [Datum.isNaN]; omega
  · split
    · simp [Datum.isNaN]; omega
    · split
      · simp [Datum.isNaN]; omega
      · simp [Datum.isNaN]; omega

theorem word_mod (f : Format) (neg : Bool) {rung : Nat} (h : rung < f.signWeight) : f.word neg rung % f.signWeight = rung := by
  unfold Format.word
  split
  · rw [Nat.add_mod_left]; exact Nat.mod_eq_of_lt h
  · exact Nat.mod_eq_of_lt h

theorem word_notNaN (f : Format) (hb : f.binade ≤ f.infRung) (neg : Bool) {rung : Nat} (h : rung ≤ f.infRung) : (f.read (f.word neg rung)).isNaN = false := by
  have := f.infRung_lt
  rw [read_isNaN f hb, word_mod f neg (by omega)]
  simp; omega

theorem nearest_rung (f : Format) (neg : Bool) (mag : Nat) (place : Int) : ∃ r, r ≤ f.infRung ∧ f.nearest neg mag place = f.word neg r := by
  unfold Format.nearest
  dsimp only
  split
  · exact ⟨0, Nat.zero_le _, rfl⟩
  · exact ⟨_, Nat.min_le_right _ _, rfl⟩

theorem write_notNaN (f : Format) (hb : f.binade ≤ f.infRung) (d : Datum) (hd : d.isNaN = false) : (f.read (f.write d)).isNaN = false := by
  cases d with
  | number s m p =>
    obtain ⟨r, hr, e⟩ := nearest_rung f s m p
    show (f.read (f.nearest s m p)).isNaN = false
    rw [e]; exact word_notNaN f hb s hr
  | infinity s => exact word_notNaN f hb s (Nat.le_refl _)
  | nan s t => simp [Datum.isNaN] at hd

theorem sum_notNaN {x y d : Datum} (h : x.sum y = some d) : d.isNaN = false := by
  cases x <;> cases y <;> simp only [Datum.sum] at h
  all_goals first
    | (cases h; rfl)
    | cases h
    | (split at h <;> first | (cases h; rfl) | cases h)

theorem product_notNaN {x y d : Datum} (h : x.product y = some d) : d.isNaN = false := by
  cases x <;> cases y <;> simp only [Datum.product] at h
  all_goals first
    | (cases h; rfl)
    | cases h
    | (split at h <;> first | (cases h; rfl) | cases h)

theorem quotient_notNaN {n : Nat} {x y d : Datum} (h : x.quotient n y = some d) : d.isNaN = false := by
  cases x <;> cases y <;> simp only [Datum.quotient] at h
  all_goals first
    | (cases h; rfl)
    | cases h
    | (split at h
       · split at h <;> first | (cases h; rfl) | cases h
       · cases h; rfl)

theorem sum_nan_left {x y : Datum} (h : x.isNaN = true) : x.sum y = none := by
  cases x <;> simp [Datum.isNaN] at h
  cases y <;> rfl
theorem sum_nan_right {x y : Datum} (h : y.isNaN = true) : x.sum y = none := by
  cases y <;> simp [Datum.isNaN] at h
  cases x <;> rfl
theorem product_nan_left {x y : Datum} (h : x.isNaN = true) : x.product y = none := by
  cases x <;> simp [Datum.isNaN] at h
  cases y <;> rfl
theorem product_nan_right {x y : Datum} (h : y.isNaN = true) : x.product y = none := by
  cases y <;> simp [Datum.isNaN] at h
  cases x <;> rfl
theorem quotient_nan_left {n : Nat} {x y : Datum} (h : x.isNaN = true) : x.quotient n y = none := by
  cases x <;> simp [Datum.isNaN] at h
  cases y <;> rfl
theorem quotient_nan_right {n : Nat} {x y : Datum} (h : y.isNaN = true) : x.quotient n y = none := by
  cases y <;> simp [Datum.isNaN] at h
  cases x <;> rfl
theorem opposite_isNaN (x : Datum) : x.opposite.isNaN = x.isNaN := by cases x <;> rfl
theorem order_nan_left {x y : Datum} (h : x.isNaN = true) : x.order y = none := by
  cases x <;> simp [Datum.isNaN] at h
  cases y <;> rfl
theorem order_nan_right {x y : Datum} (h : y.isNaN = true) : x.order y = none := by
  cases y <;> simp [Datum.isNaN] at h
  cases x <;> rfl
theorem order_self {x : Datum} (h : x.isNaN = false) : x.order x = some .eq := by
  cases x with
  | number s m i => simp [Datum.order]
  | infinity s => simp [Datum.order]
  | nan s t => simp [Datum.isNaN] at h
theorem order_swap (x y : Datum) : y.order x = (x.order y).map Ordering.swap := by
  cases x <;> cases y <;> simp only [Datum.order, Option.map_some, Option.map_none]
  · rename_i s m i t n j
    rw [show min j i = min i j from by omega]
    generalize signed s m (i - min i j).toNat = p
    generalize signed t n (j - min i j).toNat = q
    rw [Int.compare_swap]
  · rename_i s m i t
    cases t <;> rfl
  · rename_i s t n j
    cases s <;> rfl
  · rename_i s t
    cases s <;> cases t <;> rfl

/-- A number that the format has, its magnitude written with j zeros more behind, is written as its own word. -/
theorem nearest_exact (f : Format) (neg : Bool) {m : Nat} (hm : m ≠ 0) (p : Int) (j : Nat)
    (hp : f.leastPlace ≤ p) (hs : (m.log2 : Int) ≤ f.fractionBits) (hn : p = f.leastPlace ∨ m.log2 = f.fractionBits) :
    f.nearest neg (m <<< j) (p - j) = f.word neg (min ((p - f.leastPlace).toNat * f.binade + m) f.infRung) := by
  have h2 : 0 < 2 ^ j := Nat.two_pow_pos _
  have hmj : m <<< j = m * 2 ^ j := Nat.shiftLeft_eq _ _
  have hz : m <<< j ≠ 0 := by
    rw [hmj]; exact Nat.mul_ne_zero hm (by omega)
  have hl : (m <<< j).log2 = m.log2 + j := by
    rw [hmj]
    exact log2_mul_pow hm j
  unfold Format.nearest
  rw [if_neg hz, hl]
  have hlast : max (p - j + ((m.log2 + j : Nat) : Int) - f.fractionBits) f.leastPlace = p := by
    rcases hn with h | h <;> omega
  dsimp only
  rw [hlast]
  have e1 : (p - ↑j - p).toNat = 0 := by omega
  have e2 : (p - (p - ↑j)).toNat = j := by omega
  rw [e1, e2, Nat.shiftLeft_zero]
  have hcut : Toward.even.cut neg (m <<< j) j = m := by
    unfold Toward.cut
    rw [hl, show min j (m.log2 + j + 2) = j from by omega, hmj, Nat.one_shiftLeft]
    simp [Nat.mul_div_cancel _ h2]
  rw [hcut]
end Go.Proofs.Ythdmfmhhnacgfaa
