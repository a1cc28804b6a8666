/- The order of floats is the order of whole numbers: of signed rungs. Conditions: the words are no NaNs. -/
import Derived.Test.YthdmfmhhnacgfaaIe
namespace Go.Proofs.Ythdmfmhhnacgfaa
open Ieee

/-- What a rung stands for, in units of the least place. -/
def fval (f : Format) (r : Nat) : Nat := if r < f.binade then r else (f.binade + r % f.binade) * 2 ^ (r / f.binade - 1)
def fsgn (f : Format) (x : Nat) : Bool := x / f.signWeight % 2 == 1
def frung (f : Format) (x : Nat) : Nat := x % f.signWeight
def sgnd (s : Bool) (n : Nat) : Int := if s then -(n : Int) else n
/-- The signed rung. -/
def skey (f : Format) (x : Nat) : Int := sgnd (fsgn f x) (frung f x)

theorem fval_lt (f : Format) {r s : Nat} (h : r < s) : fval f r < fval f s := by
  have hB := binade_pos f
  unfold fval
  generalize f.binade = B at *
  by_cases h2 : s < B
  · rw [if_pos (by omega), if_pos h2]; exact h
  · rw [if_neg h2]
    have p2 : 0 < 2 ^ (s / B - 1) := Nat.two_pow_pos _
    by_cases h1 : r < B
    · rw [if_pos h1]
      calc r < B := h1
        _ ≤ B + s % B := Nat.le_add_right _ _
        _ = (B + s % B) * 1 := (Nat.mul_one _).symm
        _ ≤ (B + s % B) * 2 ^ (s / B - 1) := Nat.mul_le_mul_left _ p2
    · rw [if_neg h1]
      have hd : r / B ≤ s / B := Nat.div_le_div_right (by omega)
      have q1 : 1 ≤ r / B := (Nat.one_le_div_iff hB).2 (by omega)
      have er := Nat.div_add_mod r B
      have es := Nat.div_add_mod s B
      have mr := Nat.mod_lt r hB
      rcases Nat.lt_or_ge (r / B) (s / B) with hq | hq
      · have h3 : (B + r % B) * 2 ^ (r / B - 1) < (2 * B) * 2 ^ (r / B - 1) := Nat.mul_lt_mul_of_pos_right (by omega) (Nat.two_pow_pos _)
        have h4 : (2 * B) * 2 ^ (r / B - 1) = B * 2 ^ (r / B) := by
          rw [Nat.mul_comm 2 B, Nat.mul_assoc, ← Nat.pow_succ', show (r / B - 1).succ = r / B from by omega]
        have h5 : B * 2 ^ (r / B) ≤ B * 2 ^ (s / B - 1) := Nat.mul_le_mul_left _ (Nat.pow_le_pow_right (by omega) (by omega))
        have h6 : B * 2 ^ (s / B - 1) ≤ (B + s % B) * 2 ^ (s / B - 1) := Nat.mul_le_mul_right _ (Nat.le_add_right _ _)
        omega
      · have hq' : r / B = s / B := Nat.le_antisymm hd hq
        rw [hq'] at er ⊢
        exact Nat.mul_lt_mul_of_pos_right (by omega) p2

theorem fval_le (f : Format) {r s : Nat} (h : r ≤ s) : fval f r ≤ fval f s := by
  rcases Nat.lt_or_ge r s with h1 | h1
  · exact Nat.le_of_lt (fval_lt f h1)
  · rw [Nat.le_antisymm h h1]; exact Nat.le_refl _

/-- A finite word, read. -/
theorem read_number (f : Format) {x : Nat} (h : frung f x < f.infRung) :
    ∃ m p, f.read x = .number (fsgn f x) m p ∧ f.leastPlace ≤ p ∧ m * 2 ^ (p - f.leastPlace).toNat = fval f (frung f x) := by
  unfold Format.read frung fsgn fval at *
  dsimp only
  by_cases h1 : x % f.signWeight < f.binade
  · rw [if_pos h1, if_pos h1]
    exact ⟨_, _, rfl, Int.le_refl _, by simp⟩
  · rw [if_neg h1, if_pos h, if_neg h1]
    refine ⟨_, _, rfl, by omega, ?_⟩
    congr 2
    omega

theorem cmp_mul (a b : Int) (c : Nat) (hc : 0 < c) : compare (a * c) (b * c) = compare a b := by
  have hc' : (0 : Int) < c := by omega
  rcases Int.lt_trichotomy a b with h | h | h
  · rw [Int.compare_eq_lt.2 h, Int.compare_eq_lt.2 (Int.mul_lt_mul_of_pos_right h hc')]
  · subst h; rw [Int.compare_eq_eq.2 rfl, Int.compare_eq_eq.2 rfl]
  · rw [Int.compare_eq_gt.2 h, Int.compare_eq_gt.2 (Int.mul_lt_mul_of_pos_right h hc')]

theorem signed_scale (s : Bool) (m k e : Nat) : signed s m k * (2 ^ e : Nat) = sgnd s (m * 2 ^ (k + e)) := by
  unfold signed sgnd
  have h : ((m <<< k : Nat) : Int) * ((2 ^ e : Nat) : Int) = ((m * 2 ^ (k + e) : Nat) : Int) := by
    rw [Nat.shiftLeft_eq, Nat.pow_add, ← Nat.mul_assoc]
    exact (Int.natCast_mul _ _).symm
  cases s
  · exact h
  · simp only [if_true]; rw [Int.neg_mul, h]

theorem sgnd_lt_mono {V : Nat → Nat} (hV : ∀ {a b : Nat}, a < b → V a < V b) (h0 : V 0 = 0) (s t : Bool) (a b : Nat) :
    compare (sgnd s (V a)) (sgnd t (V b)) = compare (sgnd s a) (sgnd t b) := by
  have hle : ∀ {a b : Nat}, a ≤ b → V a ≤ V b := fun {a b} h => by
    rcases Nat.lt_or_ge a b with h1 | h1
    · exact Nat.le_of_lt (hV h1)
    · rw [Nat.le_antisymm h h1]; exact Nat.le_refl _
  have hpos : ∀ {a : Nat}, 0 < a → 0 < V a := fun {a} h => by have := hV h; rw [h0] at this; exact this
  have key : ∀ x y : Int, ∀ x' y' : Int, (x < y ↔ x' < y') → (y < x ↔ y' < x') → compare x y = compare x' y' := fun x y x' y' h1 h2 => by
    rcases Int.lt_trichotomy x y with h | h | h
    · rw [Int.compare_eq_lt.2 h, Int.compare_eq_lt.2 (h1.1 h)]
    · have : x' = y' := by
        have a1 : ¬ x' < y' := fun k => by have := h1.2 k; omega
        have a2 : ¬ y' < x' := fun k => by have := h2.2 k; omega
        omega
      rw [Int.compare_eq_eq.2 h, Int.compare_eq_eq.2 this]
    · rw [Int.compare_eq_gt.2 h, Int.compare_eq_gt.2 (h2.1 h)]
  have both : ∀ s t : Bool, ∀ a b : Nat, (sgnd s (V a) < sgnd t (V b) ↔ sgnd s a < sgnd t b) := fun s t a b => by
    have e1 : V a < V b ↔ a < b := ⟨fun h => by
      rcases Nat.lt_or_ge a b with h1 | h1
      · exact h1
      · have := hle h1; omega, hV⟩
    have e2 : V b < V a ↔ b < a := ⟨fun h => by
      rcases Nat.lt_or_ge b a with h1 | h1
      · exact h1
      · have := hle h1; omega, hV⟩
    have z1 : 0 < V a ↔ 0 < a := ⟨fun h => by
      rcases Nat.eq_zero_or_pos a with h1 | h1
      · rw [h1, h0] at h; omega
      · exact h1, hpos⟩
    have z2 : 0 < V b ↔ 0 < b := ⟨fun h => by
      rcases Nat.eq_zero_or_pos b with h1 | h1
      · rw [h1, h0] at h; omega
      · exact h1, hpos⟩
    cases s <;> cases t <;> simp only [sgnd, if_true, Bool.false_eq_true, if_false] <;> omega
  exact key _ _ _ _ (both s t a b) (both t s b a)

theorem fval_zero (f : Format) : fval f 0 = 0 := by unfold fval; rw [if_pos (binade_pos f)]

/-- The order of two words that are no NaNs. -/
theorem order_skey (f : Format) (hb : f.binade ≤ f.infRung) {x y : Nat} (hx : (f.read x).isNaN = false) (hy : (f.read y).isNaN = false) :
    f.order x y = some (compare (skey f x) (skey f y)) := by
  rw [read_isNaN f hb] at hx hy
  have hx' : frung f x ≤ f.infRung := by unfold frung; simpa using hx
  have hy' : frung f y ≤ f.infRung := by unfold frung; simpa using hy
  have hinf : ∀ z, frung f z = f.infRung → f.read z = .infinity (fsgn f z) := fun z hz => by
    unfold frung at hz
    unfold Format.read fsgn
    dsimp only
    rw [if_neg (by omega), if_neg (by omega), if_pos hz]
  unfold Format.order skey
  rcases Nat.lt_or_ge (frung f x) f.infRung with h1 | h1
  · obtain ⟨m, i, e1, li, vi⟩ := read_number f h1
    rcases Nat.lt_or_ge (frung f y) f.infRung with h2 | h2
    · obtain ⟨n, j, e2, lj, vj⟩ := read_number f h2
      rw [e1, e2]
      show some (compare (signed (fsgn f x) m (i - min i j).toNat) (signed (fsgn f y) n (j - min i j).toNat)) = _
      rw [← cmp_mul _ _ (2 ^ (min i j - f.leastPlace).toNat) (Nat.two_pow_pos _), signed_scale, signed_scale,
        show (i - min i j).toNat + (min i j - f.leastPlace).toNat = (i - f.leastPlace).toNat from by omega,
        show (j - min i j).toNat + (min i j - f.leastPlace).toNat = (j - f.leastPlace).toNat from by omega, vi, vj]
      rw [sgnd_lt_mono (fun {a b} h => fval_lt f h) (fval_zero f)]
    · have h2' := Nat.le_antisymm hy' h2
      rw [e1, hinf y h2', h2']
      show some (if fsgn f y then Ordering.gt else Ordering.lt) = _
      congr 1
      cases fsgn f y
      · simp only [Bool.false_eq_true, if_false]
        symm; rw [Int.compare_eq_lt]
        unfold sgnd; split <;> simp <;> omega
      · simp only [if_true]
        symm; rw [Int.compare_eq_gt]
        unfold sgnd; simp only [if_true]; split <;> omega
  · have h1' := Nat.le_antisymm hx' h1
    rw [hinf x h1', h1']
    rcases Nat.lt_or_ge (frung f y) f.infRung with h2 | h2
    · obtain ⟨n, j, e2, lj, vj⟩ := read_number f h2
      rw [e2]
      show some (if fsgn f x then Ordering.lt else Ordering.gt) = _
      congr 1
      cases fsgn f x
      · simp only [Bool.false_eq_true, if_false]
        symm; rw [Int.compare_eq_gt]
        unfold sgnd; simp only [Bool.false_eq_true, if_false]; split <;> omega
      · simp only [if_true]
        symm; rw [Int.compare_eq_lt]
        unfold sgnd; simp only [if_true]; split <;> omega
    · have h2' := Nat.le_antisymm hy' h2
      rw [hinf y h2', h2']
      show some (compare (fsgn f y).toNat (fsgn f x).toNat) = _
      congr 1
      have hp : 0 < f.infRung := Nat.lt_of_lt_of_le (binade_pos f) hb
      cases fsgn f x <;> cases fsgn f y
      · simp [sgnd]
      · symm
        show compare (f.infRung : Int) (-(f.infRung : Int)) = .gt
        rw [Int.compare_eq_gt]; omega
      · symm
        show compare (-(f.infRung : Int)) (f.infRung : Int) = .lt
        rw [Int.compare_eq_lt]; omega
      · simp [sgnd]

/-- Two words of the width with one signed rung, which is not 0, are one. -/
theorem skey_inj (f : Format) {x y : Nat} (hx : x < 2 * f.signWeight) (hy : y < 2 * f.signWeight) (h : skey f x = skey f y) (h0 : skey f x ≠ 0) : x = y := by
  unfold skey sgnd fsgn frung at *
  have hp : 0 < f.signWeight := Nat.two_pow_pos _
  have ex := Nat.div_add_mod x f.signWeight
  have ey := Nat.div_add_mod y f.signWeight
  have dx : x / f.signWeight < 2 := (Nat.div_lt_iff_lt_mul hp).2 (by omega)
  have dy : y / f.signWeight < 2 := (Nat.div_lt_iff_lt_mul hp).2 (by omega)
  generalize x / f.signWeight = a at *
  generalize y / f.signWeight = b at *
  generalize x % f.signWeight = c at *
  generalize y % f.signWeight = d at *
  have ha : a = 0 ∨ a = 1 := by omega
  have hb : b = 0 ∨ b = 1 := by omega
  rcases ha with rfl | rfl <;> rcases hb with rfl | rfl <;> simp at h h0 <;> omega
end Go.Proofs.Ythdmfmhhnacgfaa
