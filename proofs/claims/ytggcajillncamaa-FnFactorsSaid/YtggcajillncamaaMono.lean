/- Rounding is monotone: the sum and the product of numbers from nought up. Sums and products of single floats from nought up: never NaN, monotone. A quotient of two numbers from nought up, the first one no greater: from nought to one. -/
import Derived.Test.YtggcajillncamaaF6
import Derived.Test.YtggcajillncamaaNeg
namespace Go.Proofs.Ytggcajillncamaa
open Ieee
set_option maxRecDepth 100000

/-- n / g rounded to the nearest whole number, ties to the even one. -/
def rne (n g : Nat) : Nat := n / g + (decide (g < 2 * (n % g)) || (g == 2 * (n % g) && n / g % 2 == 1)).toNat
theorem rne_le (n g : Nat) : rne n g ≤ n / g + 1 := by
  unfold rne
  have h : ∀ b : Bool, b.toNat ≤ 1 := fun b => by cases b <;> simp
  exact Nat.add_le_add_left (h _) _
theorem rne_ge (n g : Nat) : n / g ≤ rne n g := Nat.le_add_right _ _
theorem rne_mono {g : Nat} (hg : 0 < g) {n n' : Nat} (h : n ≤ n') : rne n g ≤ rne n' g := by
  have hq : n / g ≤ n' / g := Nat.div_le_div_right h
  rcases Nat.lt_or_ge (n / g) (n' / g) with h1 | h1
  · exact Nat.le_trans (rne_le n g) (Nat.le_trans h1 (rne_ge n' g))
  · have he : n / g = n' / g := Nat.le_antisymm hq h1
    have hr : n % g ≤ n' % g := by
      have a1 := Nat.div_add_mod n g
      have a2 := Nat.div_add_mod n' g
      rw [he] at a1
      omega
    unfold rne
    rw [he]
    refine Nat.add_le_add_left ?_ _
    rcases Nat.lt_or_ge (n % g) (n' % g) with h2 | h2
    · by_cases h3 : g < 2 * (n' % g)
      · rw [decide_eq_true h3]; simp; cases (decide (g < 2 * (n % g)) || g == 2 * (n % g) && n' / g % 2 == 1) <;> simp
      · rw [decide_eq_false (show ¬ g < 2 * (n % g) by omega), show (g == 2 * (n % g)) = false from beq_eq_false_iff_ne.2 (by omega)]
        simp
    · rw [Nat.le_antisymm hr h2]
      exact Nat.le_refl _
theorem rne_mul (n : Nat) {g : Nat} (hg : 0 < g) : rne (n * g) g = n := by
  unfold rne
  rw [Nat.mul_div_cancel _ hg, Nat.mul_mod_left]
  have h1 : ¬ g < 2 * 0 := by omega
  have h2 : (g == 2 * 0) = false := beq_eq_false_iff_ne.2 (by omega)
  rw [decide_eq_false h1, h2]
  simp
theorem rne_scale (n g k : Nat) (hk : 0 < k) : rne (n * k) (g * k) = rne n g := by
  unfold rne
  rw [Nat.mul_div_mul_right _ _ hk, Nat.mul_mod_mul_right]
  have h1 : (decide (g * k < 2 * (n % g * k))) = decide (g < 2 * (n % g)) := by
    rw [← Nat.mul_assoc]
    exact decide_eq_decide.2 ⟨fun h => Nat.lt_of_mul_lt_mul_right h, fun h => Nat.mul_lt_mul_of_pos_right h hk⟩
  have h2 : (g * k == 2 * (n % g * k)) = (g == 2 * (n % g)) := by
    rw [← Nat.mul_assoc, Bool.eq_iff_iff, beq_iff_eq, beq_iff_eq]
    exact ⟨fun h => Nat.eq_of_mul_eq_mul_right hk h, fun h => congrArg (· * k) h⟩
  rw [h1, h2]
theorem cut_rne (n d : Nat) (neg : Bool) : Toward.even.cut neg n d = rne n (2 ^ d) := by
  unfold Toward.cut rne
  dsimp only
  rw [Nat.one_shiftLeft]
  by_cases h : d ≤ n.log2 + 2
  · rw [Nat.min_eq_left h]
  · have hmin : min d (n.log2 + 2) = n.log2 + 2 := Nat.min_eq_right (by omega)
    rw [hmin]
    have h1 : n < 2 ^ (n.log2 + 1) := by
      by_cases hn : n = 0
      · subst hn; exact Nat.two_pow_pos _
      · exact (Nat.log2_lt hn).1 (Nat.lt_succ_self _)
    have h2 : 2 ^ (n.log2 + 2) = 2 * 2 ^ (n.log2 + 1) := by rw [Nat.pow_succ]; omega
    have h3 : 2 ^ (n.log2 + 2) ≤ 2 ^ d := Nat.pow_le_pow_right (by omega) (by omega)
    rw [Nat.div_eq_of_lt (show n < 2 ^ (n.log2 + 2) by omega), Nat.mod_eq_of_lt (show n < 2 ^ (n.log2 + 2) by omega), Nat.div_eq_of_lt (show n < 2 ^ d by omega), Nat.mod_eq_of_lt (show n < 2 ^ d by omega)]
    rw [decide_eq_false (show ¬ 2 ^ (n.log2 + 2) < 2 * n by omega), decide_eq_false (show ¬ 2 ^ d < 2 * n by omega), show (2 ^ (n.log2 + 2) == 2 * n) = false from beq_eq_false_iff_ne.2 (by omega), show (2 ^ d == 2 * n) = false from beq_eq_false_iff_ne.2 (by omega)]
/-- Where the last digit that is kept of n * 2 ^ b lies. -/
def lastAt (f : Format) (b : Int) (n : Nat) : Int := max (b + (n.log2 : Int) - f.fractionBits) f.leastPlace
/-- The rung nearest to n * 2 ^ b. -/
def rungOf (f : Format) (b : Int) (n : Nat) : Nat := min ((lastAt f b n - f.leastPlace).toNat * f.binade + rne n (2 ^ (lastAt f b n - b).toNat)) f.infRung
theorem nearest_rungOf (f : Format) (neg : Bool) {m : Nat} (hm : m ≠ 0) (p b : Int) (hb : b ≤ p) (hl : b ≤ f.leastPlace) : f.nearest neg m p = f.word neg (rungOf f b (m * 2 ^ (p - b).toNat)) := by
  have hlog : (m * 2 ^ (p - b).toNat).log2 = m.log2 + (p - b).toNat := log2_mul_pow hm _
  have hlast : lastAt f b (m * 2 ^ (p - b).toNat) = max (p + (m.log2 : Int) - f.fractionBits) f.leastPlace := by
    unfold lastAt; rw [hlog]
    have : (b + ((m.log2 + (p - b).toNat : Nat) : Int)) = p + (m.log2 : Int) := by omega
    rw [this]
  unfold Format.nearest rungOf
  rw [if_neg hm, hlast]
  dsimp only
  generalize hL : max (p + (m.log2 : Int) - f.fractionBits) f.leastPlace = last
  have hll : f.leastPlace ≤ last := by rw [← hL]; exact Int.le_max_right _ _
  congr 3
  rw [cut_rne]
  rcases Int.lt_or_le p last with h | h
  · have e1 : (p - last).toNat = 0 := by omega
    have e2 : (last - b).toNat = (last - p).toNat + (p - b).toNat := by omega
    rw [e1, Nat.shiftLeft_zero, e2, Nat.pow_add, rne_scale _ _ _ (Nat.two_pow_pos _)]
  · have e1 : (last - p).toNat = 0 := by omega
    have e2 : (p - b).toNat = (p - last).toNat + (last - b).toNat := by omega
    rw [e1, Nat.pow_zero, Nat.shiftLeft_eq, e2, Nat.pow_add, ← Nat.mul_assoc, rne_mul _ (Nat.two_pow_pos _)]
    have := rne_mul (m * 2 ^ (p - last).toNat) (g := 1) (by omega)
    rwa [Nat.mul_one] at this
theorem log2_mono {n n' : Nat} (hn : n ≠ 0) (h : n ≤ n') : n.log2 ≤ n'.log2 := by
  rcases Nat.lt_or_ge n'.log2 n.log2 with h1 | h1
  · have a1 : n' < 2 ^ n.log2 := (Nat.log2_lt (by omega)).1 h1
    have a2 : 2 ^ n.log2 ≤ n := Nat.log2_self_le hn
    omega
  · exact h1
/-- Rounding is monotone. -/
theorem rungOf_mono (f : Format) {b : Int} (hb : b ≤ f.leastPlace) {n n' : Nat} (hn : n ≠ 0) (h : n ≤ n') : rungOf f b n ≤ rungOf f b n' := by
  have hlog := log2_mono hn h
  unfold rungOf
  refine Nat.le_min.2 ⟨?_, Nat.min_le_right _ _⟩
  refine Nat.le_trans (Nat.min_le_left _ _) ?_
  have hll : lastAt f b n ≤ lastAt f b n' := by unfold lastAt; omega
  rcases Int.lt_or_le (lastAt f b n) (lastAt f b n') with h1 | h1
  · have hl' : lastAt f b n' = b + (n'.log2 : Int) - f.fractionBits := by unfold lastAt at h1 ⊢; omega
    have hl0 : b + (n.log2 : Int) - f.fractionBits ≤ lastAt f b n := by unfold lastAt; omega
    have hlp : f.leastPlace ≤ lastAt f b n := by unfold lastAt; omega
    -- the smaller one is at most two binades of its own step
    have u : rne n (2 ^ (lastAt f b n - b).toNat) ≤ 2 * f.binade := by
      have a1 : n < 2 ^ (n.log2 + 1) := (Nat.log2_lt hn).1 (Nat.lt_succ_self _)
      have a2 : n.log2 + 1 ≤ f.fractionBits + 1 + (lastAt f b n - b).toNat := by omega
      have a3 : n < 2 ^ (f.fractionBits + 1) * 2 ^ (lastAt f b n - b).toNat := by rw [← Nat.pow_add]; exact Nat.lt_of_lt_of_le a1 (Nat.pow_le_pow_right (by omega) a2)
      have a4 : n / 2 ^ (lastAt f b n - b).toNat < 2 ^ (f.fractionBits + 1) := (Nat.div_lt_iff_lt_mul (Nat.two_pow_pos _)).2 a3
      have a5 := rne_le n (2 ^ (lastAt f b n - b).toNat)
      have a6 : 2 ^ (f.fractionBits + 1) = 2 * f.binade := by unfold Format.binade; rw [Nat.pow_succ]; omega
      omega
    have v : f.binade ≤ rne n' (2 ^ (lastAt f b n' - b).toNat) := by
      have a1 : 2 ^ n'.log2 ≤ n' := Nat.log2_self_le (by omega)
      have a2 : n'.log2 = f.fractionBits + (lastAt f b n' - b).toNat := by omega
      have a3 : f.binade * 2 ^ (lastAt f b n' - b).toNat ≤ n' := by
        unfold Format.binade; rw [← Nat.pow_add, ← a2]; exact a1
      have a4 : f.binade ≤ n' / 2 ^ (lastAt f b n' - b).toNat := (Nat.le_div_iff_mul_le (Nat.two_pow_pos _)).2 a3
      exact Nat.le_trans a4 (rne_ge _ _)
    have hk : (lastAt f b n - f.leastPlace).toNat + 1 ≤ (lastAt f b n' - f.leastPlace).toNat := by omega
    have hk2 : ((lastAt f b n - f.leastPlace).toNat + 1) * f.binade ≤ (lastAt f b n' - f.leastPlace).toNat * f.binade := Nat.mul_le_mul_right _ hk
    rw [Nat.succ_mul] at hk2
    omega
  · have he : lastAt f b n = lastAt f b n' := Int.le_antisymm hll h1
    rw [he]
    exact Nat.add_le_add_left (rne_mono (Nat.two_pow_pos _) h) _
end Go.Proofs.Ytggcajillncamaa
namespace Go.Proofs.Ytggcajillncamaa
open Ieee
set_option maxRecDepth 100000

def infW : Nat := 2139095040
/-- A number from nought up, or the positive infinity. -/
def nn (x : Nat) : Prop := x ≤ 2139095040
theorem nn_isn {x : Nat} (h : nn x) : isn x = false := by
  unfold nn at h
  rw [isn_eq, Nat.mod_eq_of_lt (by omega)]
  simpa using h
theorem nn_frung {x : Nat} (h : nn x) : frung single x = x := by
  unfold nn at h
  unfold frung
  exact Nat.mod_eq_of_lt (show x < single.signWeight by have e : single.signWeight = 2147483648 := rfl; omega)
theorem nn_fsgn {x : Nat} (h : nn x) : fsgn single x = false := by
  unfold nn at h
  unfold fsgn
  rw [Nat.div_eq_of_lt (show x < single.signWeight by have e : single.signWeight = 2147483648 := rfl; omega)]
  rfl
theorem nn_skey {x : Nat} (h : nn x) : skey single x = (x : Int) := by
  unfold skey sgnd
  rw [nn_fsgn h, nn_frung h]
  rfl
theorem nn_cn {x : Nat} (h : nn x) : cn x = x := cn_of_not (nn_isn h)
theorem nn_FV {x : Nat} (h : nn x) : FV x x := ⟨nn_cn h, by unfold nn at h; omega⟩
theorem nn_flt {x y : Nat} (hx : nn x) (hy : nn y) : flt x y = decide (x < y) := by
  unfold flt
  rw [order_skey single single_bi (nn_isn hx) (nn_isn hy), nn_skey hx, nn_skey hy]
  rcases Nat.lt_trichotomy x y with h | h | h
  · rw [Int.compare_eq_lt.2 (by omega), decide_eq_true h]; rfl
  · rw [Int.compare_eq_eq.2 (by omega), decide_eq_false (by omega)]; rfl
  · rw [Int.compare_eq_gt.2 (by omega), decide_eq_false (by omega)]; rfl
theorem nn_feq {x y : Nat} (hx : nn x) (hy : nn y) : feq x y = decide (x = y) := by
  unfold feq
  rw [order_skey single single_bi (nn_isn hx) (nn_isn hy), nn_skey hx, nn_skey hy]
  rcases Nat.lt_trichotomy x y with h | h | h
  · rw [Int.compare_eq_lt.2 (by omega), decide_eq_false (by omega)]; rfl
  · rw [Int.compare_eq_eq.2 (by omega), decide_eq_true h]; rfl
  · rw [Int.compare_eq_gt.2 (by omega), decide_eq_false (by omega)]; rfl
theorem nn_fle {x y : Nat} (hx : nn x) (hy : nn y) : fle x y = decide (x ≤ y) := by
  have h : fle x y = (flt x y || feq x y) := rfl
  rw [h, nn_flt hx hy, nn_feq hx hy, Bool.eq_iff_iff]
  simp
  omega
theorem fval_mono {x y : Nat} (h : x ≤ y) : fval single x ≤ fval single y := by
  rcases Nat.lt_or_ge x y with h1 | h1
  · exact Nat.le_of_lt (fval_lt single h1)
  · rw [Nat.le_antisymm h h1]; exact Nat.le_refl _
theorem fval_pos {x : Nat} (h : 0 < x) : 0 < fval single x := by
  have := fval_lt single h
  rw [fval_zero] at this
  exact this
theorem nn_read {x : Nat} (h : x < infW) : ∃ m p, single.read x = .number false m p ∧ single.leastPlace ≤ p ∧ m * 2 ^ (p - single.leastPlace).toNat = fval single x := by
  have hn : nn x := by unfold nn; unfold infW at h; omega
  obtain ⟨m, p, e, hp, hv⟩ := read_number single (x := x) (by rw [nn_frung hn]; exact h)
  rw [nn_fsgn hn] at e
  rw [nn_frung hn] at hv
  exact ⟨m, p, e, hp, hv⟩
theorem read_infW : single.read infW = .infinity false := by decide
theorem word_false (r : Nat) : single.word false r = r := rfl
theorem rungOf_le (b : Int) (n : Nat) : rungOf single b n ≤ infW := Nat.min_le_right _ _
/-- A number that is no nought is the one nearest to itself. -/
theorem rungOf_self {x : Nat} (h0 : 0 < x) (h : x < infW) : rungOf single single.leastPlace (fval single x) = x := by
  have hn : nn x := by unfold nn; unfold infW at h; omega
  obtain ⟨m, p, e, hm, hp, hw⟩ := renear x (by rw [nn_frung hn]; exact h0) (by rw [nn_frung hn]; exact h)
  obtain ⟨m', p', e', hp', hv⟩ := nn_read h
  rw [e] at e'
  injection e' with _ e1 e2
  subst e1 e2
  have h1 := hw false
  rw [nn_frung hn, word_false] at h1
  have hmm : m <<< (p - single.leastPlace).toNat ≠ 0 := by
    rw [Nat.shiftLeft_eq]; exact Nat.mul_ne_zero hm (Nat.pos_iff_ne_zero.1 (Nat.two_pow_pos _))
  rw [nearest_rungOf single false hmm single.leastPlace single.leastPlace (Int.le_refl _) (Int.le_refl _)] at h1
  rw [word_false, Nat.shiftLeft_eq, hv, show (single.leastPlace - single.leastPlace).toNat = 0 from by omega, Nat.pow_zero, Nat.mul_one] at h1
  exact h1
/-- The sum of two numbers from nought up. -/
def addR (x y : Nat) : Nat := if x = infW ∨ y = infW then infW else if fval single x + fval single y = 0 then 0 else rungOf single single.leastPlace (fval single x + fval single y)
theorem sum_pos (m n : Nat) (p q : Int) : (Datum.number false m p).sum (.number false n q) = some (.number false (m * 2 ^ (p - min p q).toNat + n * 2 ^ (q - min p q).toNat) (min p q)) := by
  have ht : (signed false m (p - min p q).toNat + signed false n (q - min p q).toNat : Int) = ((m * 2 ^ (p - min p q).toNat + n * 2 ^ (q - min p q).toNat : Nat) : Int) := by
    simp [signed, Nat.shiftLeft_eq]
  generalize m * 2 ^ (p - min p q).toNat + n * 2 ^ (q - min p q).toNat = S at ht ⊢
  simp only [Datum.sum, ht]
  rw [Int.natAbs_natCast, decide_eq_false (show ¬ ((S : Int) < 0) by omega)]
  simp
theorem sum_scale {m n : Nat} {p q : Int} {a b : Nat} (hp : single.leastPlace ≤ p) (hq : single.leastPlace ≤ q) (hv : m * 2 ^ (p - single.leastPlace).toNat = a) (hu : n * 2 ^ (q - single.leastPlace).toNat = b) :
    (m * 2 ^ (p - min p q).toNat + n * 2 ^ (q - min p q).toNat) * 2 ^ (min p q - single.leastPlace).toNat = a + b := by
  generalize single.leastPlace = L at *
  rw [Nat.add_mul, Nat.mul_assoc, Nat.mul_assoc, ← Nat.pow_add, ← Nat.pow_add]
  rw [show (p - min p q).toNat + (min p q - L).toNat = (p - L).toNat from by omega, show (q - min p q).toNat + (min p q - L).toNat = (q - L).toNat from by omega, hv, hu]
theorem getD_map_some (d : Datum) : ((some d).map single.write).getD nanW = single.write d := rfl
theorem write_number (s : Bool) (m : Nat) (p : Int) : single.write (.number s m p) = single.nearest s m p := rfl
theorem nearest_zero (p : Int) : single.nearest false 0 p = 0 := by unfold Format.nearest; rw [if_pos rfl, word_false]
theorem sum_inf_left (m : Nat) (p : Int) : (((Datum.infinity false).sum (.number false m p)).map single.write).getD nanW = infW := rfl
theorem sum_inf_right (m : Nat) (p : Int) : (((Datum.number false m p).sum (.infinity false)).map single.write).getD nanW = infW := rfl
theorem sum_inf_both : (((Datum.infinity false).sum (.infinity false)).map single.write).getD nanW = infW := rfl
theorem fadd_nn {x y : Nat} (hx : nn x) (hy : nn y) : fadd x y = addR x y := by
  unfold nn at hx hy
  unfold fadd Format.add addR
  by_cases h1 : x = infW
  · rw [if_pos (.inl h1), h1, read_infW]
    rcases Nat.lt_or_ge y infW with h2 | h2
    · obtain ⟨m, p, e, _, _⟩ := nn_read h2
      rw [e]; exact sum_inf_left m p
    · have : y = infW := Nat.le_antisymm hy h2
      rw [this, read_infW]; exact sum_inf_both
  · have h1' : x < infW := Nat.lt_of_le_of_ne hx h1
    obtain ⟨m, p, e, hp, hv⟩ := nn_read h1'
    by_cases h2 : y = infW
    · rw [if_pos (.inr h2), h2, read_infW, e]
      exact sum_inf_right m p
    · have h2' : y < infW := Nat.lt_of_le_of_ne hy h2
      rw [if_neg (by rintro (h | h); exact h1 h; exact h2 h)]
      obtain ⟨n, q, e2, hq, hu⟩ := nn_read h2'
      have hs := sum_scale hp hq hv hu
      rw [e, e2, sum_pos, getD_map_some, write_number]
      generalize fval single x + fval single y = F at hs ⊢
      have hmin : single.leastPlace ≤ min p q := by omega
      generalize m * 2 ^ (p - min p q).toNat + n * 2 ^ (q - min p q).toNat = S at hs ⊢
      generalize min p q = pq at hs hmin ⊢
      by_cases hz : S = 0
      · rw [hz, Nat.zero_mul] at hs
        rw [hz, nearest_zero, if_pos hs.symm]
      · have hF : F ≠ 0 := by rw [← hs]; exact Nat.mul_ne_zero hz (Nat.pos_iff_ne_zero.1 (Nat.two_pow_pos _))
        rw [if_neg hF, nearest_rungOf single false hz pq single.leastPlace hmin (Int.le_refl _), hs, word_false]
theorem nn_fadd {x y : Nat} (hx : nn x) (hy : nn y) : nn (fadd x y) := by
  rw [fadd_nn hx hy]
  unfold addR nn
  split
  · exact Nat.le_refl _
  · split
    · omega
    · exact rungOf_le _ _
theorem fadd_mono {x y x' y' : Nat} (hx : nn x') (hy : nn y') (h1 : x ≤ x') (h2 : y ≤ y') : fadd x y ≤ fadd x' y' := by
  rw [fadd_nn (Nat.le_trans h1 hx) (Nat.le_trans h2 hy), fadd_nn hx hy]
  unfold addR
  by_cases hi : x' = infW ∨ y' = infW
  · rw [if_pos hi]
    split
    · exact Nat.le_refl _
    · split
      · omega
      · exact rungOf_le _ _
  · rw [if_neg hi, if_neg (by unfold nn infW at *; omega)]
    have hv := Nat.add_le_add (fval_mono h1) (fval_mono h2)
    by_cases hz : fval single x + fval single y = 0
    · rw [if_pos hz]; omega
    · rw [if_neg hz, if_neg (by omega)]
      exact rungOf_mono single (Int.le_refl _) hz hv
theorem fadd_zero {x : Nat} (hx : nn x) : fadd x 0 = x := by
  have h0 : nn 0 := Nat.zero_le _
  rw [fadd_nn hx h0]
  unfold addR
  by_cases h1 : x = infW
  · rw [if_pos (.inl h1), h1]
  · rw [if_neg (by rintro (h | h); exact h1 h; cases h), fval_zero, Nat.add_zero]
    by_cases h2 : x = 0
    · subst h2; rw [fval_zero]; rfl
    · rw [if_neg (by have := fval_pos (x := x) (by omega); omega)]
      exact rungOf_self (by omega) (by unfold nn infW at *; omega)
theorem fadd_comm_nn {x y : Nat} (hx : nn x) (hy : nn y) : fadd x y = fadd y x := by
  rw [fadd_nn hx hy, fadd_nn hy hx]
  unfold addR
  by_cases h : x = infW ∨ y = infW
  · rw [if_pos h, if_pos h.symm]
  · rw [if_neg h, if_neg (show ¬ (y = infW ∨ x = infW) from fun k => h k.symm), Nat.add_comm (fval single y)]
/-- A sum is no less than its summands. -/
theorem le_fadd {x y : Nat} (hx : nn x) (hy : nn y) : x ≤ fadd x y := by
  have := fadd_mono (x := x) (y := 0) hx hy (Nat.le_refl _) (Nat.zero_le _)
  rwa [fadd_zero hx] at this
/-- The product of a number from nought up with a positive one. -/
def mulR (x u : Nat) : Nat := if x = infW then infW else if x = 0 then 0 else rungOf single (single.leastPlace + single.leastPlace) (fval single x * fval single u)
theorem prod_inf {n : Nat} (hn : n ≠ 0) (q : Int) : (((Datum.infinity false).product (.number false n q)).map single.write).getD nanW = infW := by
  have : (Datum.infinity false).product (.number false n q) = some (.infinity false) := by simp only [Datum.product, if_neg hn]; rfl
  rw [this]; rfl
theorem prod_pos (m n : Nat) (p q : Int) : (Datum.number false m p).product (.number false n q) = some (.number false (m * n) (p + q)) := rfl
theorem prod_scale {m n : Nat} {p q : Int} {a b : Nat} (hp : single.leastPlace ≤ p) (hq : single.leastPlace ≤ q) (hv : m * 2 ^ (p - single.leastPlace).toNat = a) (hu : n * 2 ^ (q - single.leastPlace).toNat = b) :
    m * n * 2 ^ (p + q - (single.leastPlace + single.leastPlace)).toNat = a * b := by
  generalize single.leastPlace = L at *
  rw [← hv, ← hu, show (p + q - (L + L)).toNat = (p - L).toNat + (q - L).toNat from by omega, Nat.pow_add]
  generalize 2 ^ (p - L).toNat = P
  generalize 2 ^ (q - L).toNat = Q
  rw [Nat.mul_assoc m n (P * Q), Nat.mul_assoc m P (n * Q), Nat.mul_left_comm n P Q]
theorem fmul_nn {x u : Nat} (hx : nn x) (h0 : 0 < u) (hu : u < infW) : fmul x u = mulR x u := by
  unfold nn at hx
  unfold fmul Format.mul mulR
  obtain ⟨n, q, e2, hq, hv2⟩ := nn_read hu
  have hn : n ≠ 0 := by
    rintro rfl
    have := fval_pos h0
    rw [← hv2, Nat.zero_mul] at this
    exact absurd this (Nat.lt_irrefl _)
  by_cases h1 : x = infW
  · rw [if_pos h1, h1, read_infW, e2]
    exact prod_inf hn q
  · rw [if_neg h1]
    have h1' : x < infW := Nat.lt_of_le_of_ne hx h1
    obtain ⟨m, p, e, hp, hv⟩ := nn_read h1'
    rw [e, e2, prod_pos, getD_map_some, write_number]
    by_cases h2 : x = 0
    · rw [if_pos h2]
      rw [h2, fval_zero] at hv
      have hm : m = 0 := by
        rcases Nat.mul_eq_zero.1 hv with h | h
        · exact h
        · exact absurd h (Nat.pos_iff_ne_zero.1 (Nat.two_pow_pos _))
      rw [hm, Nat.zero_mul, nearest_zero]
    · rw [if_neg h2]
      have hm : m ≠ 0 := by
        rintro rfl
        have := fval_pos (x := x) (Nat.pos_of_ne_zero h2)
        rw [← hv, Nat.zero_mul] at this
        exact absurd this (Nat.lt_irrefl _)
      have hs := prod_scale hp hq hv hv2
      have hb : single.leastPlace ≤ 0 := by decide
      generalize fval single x * fval single u = F at hs ⊢
      rw [nearest_rungOf single false (Nat.mul_ne_zero hm hn) (p + q) (single.leastPlace + single.leastPlace) (by omega) (by omega), hs, word_false]
theorem nn_fmul {x u : Nat} (hx : nn x) (h0 : 0 < u) (hu : u < infW) : nn (fmul x u) := by
  rw [fmul_nn hx h0 hu]
  unfold mulR nn
  split
  · exact Nat.le_refl _
  · split
    · omega
    · exact rungOf_le _ _
theorem fmul_mono {x x' u : Nat} (hx : nn x') (h : x ≤ x') (h0 : 0 < u) (hu : u < infW) : fmul x u ≤ fmul x' u := by
  rw [fmul_nn (Nat.le_trans h hx) h0 hu, fmul_nn hx h0 hu]
  unfold mulR
  by_cases hi : x' = infW
  · rw [if_pos hi]
    split
    · exact Nat.le_refl _
    · split
      · omega
      · exact rungOf_le _ _
  · rw [if_neg hi, if_neg (by unfold nn infW at *; omega)]
    by_cases hz : x = 0
    · rw [if_pos hz]; omega
    · rw [if_neg hz, if_neg (by omega)]
      have hb : single.leastPlace ≤ 0 := by decide
      exact rungOf_mono single (by omega) (Nat.mul_ne_zero (by have := fval_pos (x := x) (by omega); omega) (by have := fval_pos h0; omega)) (Nat.mul_le_mul_right _ (fval_mono h))
end Go.Proofs.Ytggcajillncamaa
namespace Go.Proofs.Ytggcajillncamaa
open Ieee
set_option maxRecDepth 100000

theorem quot_pos (d m n : Nat) (p q : Int) (hn : n ≠ 0) : (Datum.number false m p).quotient d (.number false n q) =
    some (.number false (2 * (m <<< (d + n.log2 - m.log2) / n) + (m <<< (d + n.log2 - m.log2) % n != 0).toNat) (p - q - ((d + n.log2 - m.log2 : Nat) : Int) - 1)) := by
  simp only [Datum.quotient, if_neg hn]
  rfl
/-- The quotient with its sticky digit is no greater than twice its bound. -/
theorem sticky_le {D n T : Nat} (hn : 0 < n) (h : D ≤ n * T) : 2 * (D / n) + (D % n != 0).toNat ≤ 2 * T := by
  have a1 := Nat.div_add_mod D n
  have a2 : D / n ≤ T := by
    rw [Nat.div_le_iff_le_mul_add_pred hn]
    have : n * T ≤ n * T + (n - 1) := Nat.le_add_right _ _
    omega
  by_cases hz : D % n = 0
  · have h0 : (D % n != 0).toNat = 0 := by simp [hz]
    omega
  · have h1 : (D % n != 0).toNat = 1 := by simp [hz]
    rw [h1]
    have a3 : D / n < T := by
      rcases Nat.lt_or_ge (D / n) T with h2 | h2
      · exact h2
      · have : n * T ≤ n * (D / n) := Nat.mul_le_mul_left n h2
        omega
    omega
theorem fdiv_le_one {x y : Nat} (h0 : 0 < y) (hy : y < infW) (h : x ≤ y) : nn (fdiv x y) ∧ fdiv x y ≤ 1065353216 := by
  have hx : x < infW := Nat.lt_of_le_of_lt h hy
  unfold fdiv Format.div
  obtain ⟨m, p, e, hp, hv⟩ := nn_read hx
  obtain ⟨n, q, e2, hq, hu⟩ := nn_read hy
  have hn : n ≠ 0 := by
    rintro rfl
    have := fval_pos h0
    rw [← hu, Nat.zero_mul] at this
    exact absurd this (Nat.lt_irrefl _)
  have hle := fval_mono h
  rw [← hv, ← hu] at hle
  rw [e, e2, quot_pos _ _ _ _ _ hn, getD_map_some, write_number]
  generalize hmore : single.fractionBits + 2 + n.log2 - m.log2 = more
  generalize hS : 2 * (m <<< more / n) + (m <<< more % n != 0).toNat = S
  by_cases hz : S = 0
  · rw [hz, nearest_zero]
    exact ⟨Nat.zero_le _, Nat.zero_le _⟩
  · -- everything in units of 2 ^ b
    have hb : ∃ b : Int, b ≤ p - q - (more : Int) - 1 ∧ b ≤ single.leastPlace := ⟨min (p - q - (more : Int) - 1) single.leastPlace, by omega, by omega⟩
    obtain ⟨b, hb1, hb2⟩ := hb
    rw [nearest_rungOf single false hz _ b hb1 hb2, word_false]
    have hlp : single.leastPlace ≤ 0 := by decide
    have one : rungOf single b (1 * 2 ^ (0 - b).toNat) = 1065353216 := by
      have h1 := nearest_rungOf single false (m := 1) (by omega) 0 b (by omega) hb2
      rw [word_false] at h1
      rw [← h1]
      decide
    -- the quotient's bound
    have hS2 : S * 2 ^ (p - q - (more : Int) - 1 - b).toNat ≤ 1 * 2 ^ (0 - b).toNat := by
      rcases Int.lt_or_le (p - q - (more : Int)) 1 with hpq | hpq
      · have hT : m <<< more ≤ n * 2 ^ (q - p + (more : Int)).toNat := by
          rw [Nat.shiftLeft_eq]
          rcases Int.lt_or_le p q with h2 | h2
          · have e3 : (q - single.leastPlace).toNat = (q - p).toNat + (p - single.leastPlace).toNat := by omega
            rw [e3, Nat.pow_add, ← Nat.mul_assoc] at hle
            have h3 := Nat.le_of_mul_le_mul_right hle (Nat.two_pow_pos _)
            have e4 : (q - p + (more : Int)).toNat = (q - p).toNat + more := by omega
            rw [e4, Nat.pow_add, ← Nat.mul_assoc]
            exact Nat.mul_le_mul_right _ h3
          · have e3 : (p - single.leastPlace).toNat = (p - q).toNat + (q - single.leastPlace).toNat := by omega
            rw [e3, Nat.pow_add, ← Nat.mul_assoc] at hle
            have h3 := Nat.le_of_mul_le_mul_right hle (Nat.two_pow_pos _)
            have e4 : more = (p - q).toNat + (q - p + (more : Int)).toNat := by omega
            rw [e4, Nat.pow_add, ← Nat.mul_assoc]
            have e5 : (q - p + (((p - q).toNat + (q - p + (more : Int)).toNat : Nat) : Int)).toNat = (q - p + (more : Int)).toNat := by omega
            rw [e5]
            exact Nat.mul_le_mul_right _ h3
        have hS3 := sticky_le (Nat.pos_of_ne_zero hn) hT
        rw [hS] at hS3
        have e6 : (0 - b).toNat = ((q - p + (more : Int)).toNat + 1) + (p - q - (more : Int) - 1 - b).toNat := by omega
        rw [e6, Nat.pow_add, Nat.one_mul]
        refine Nat.mul_le_mul_right _ ?_
        rw [Nat.pow_succ, Nat.mul_comm]
        exact hS3
      · -- then the quotient would be more than one
        exfalso
        have hm : m ≠ 0 := by
          rintro rfl
          apply hz
          rw [← hS]
          simp
        have e3 : (p - single.leastPlace).toNat = (p - q).toNat + (q - single.leastPlace).toNat := by omega
        rw [e3, Nat.pow_add, ← Nat.mul_assoc] at hle
        have h3 := Nat.le_of_mul_le_mul_right hle (Nat.two_pow_pos _)
        have l1 : (m * 2 ^ (p - q).toNat).log2 = m.log2 + (p - q).toNat := log2_mul_pow hm _
        have l2 := log2_mono (Nat.mul_ne_zero hm (Nat.pos_iff_ne_zero.1 (Nat.two_pow_pos _))) h3
        have e5 : single.fractionBits = 23 := rfl
        rw [e5] at hmore
        omega
    have hr := rungOf_mono single hb2 (Nat.mul_ne_zero hz (Nat.pos_iff_ne_zero.1 (Nat.two_pow_pos _))) hS2
    rw [one] at hr
    exact ⟨rungOf_le _ _, hr⟩
end Go.Proofs.Ytggcajillncamaa
