/- Signed numbers: products, quotients and differences of a sign and a size. -/
import Derived.Test.YtggcajillncamaaMono
namespace Go.Proofs.Ytggcajillncamaa
open Ieee
set_option maxRecDepth 100000

/-- The word of a sign and a size. -/
def sw (s : Bool) (m : Nat) : Nat := if s then 2147483648 + m else m
theorem word_sw (s : Bool) (m : Nat) : single.word s m = sw s m := rfl
theorem nearest_sw (s : Bool) (M : Nat) (P : Int) : single.nearest s M P = sw s (single.nearest false M P) := by
  have hc : ∀ n d, Toward.even.cut s n d = Toward.even.cut false n d := fun _ _ => rfl
  unfold Format.nearest
  split
  · rw [word_sw, word_false]
  · dsimp only
    rw [hc, word_sw, word_false]
theorem read_sw (s : Bool) {m : Nat} (h : m < infW) : ∃ a p, single.read m = .number false a p ∧ single.read (sw s m) = .number s a p ∧ single.leastPlace ≤ p ∧ a * 2 ^ (p - single.leastPlace).toNat = fval single m := by
  obtain ⟨a, p, e, hp, hv⟩ := nn_read h
  refine ⟨a, p, e, ?_, hp, hv⟩
  cases s
  · exact e
  · unfold infW at h
    have e0 : single.signWeight = 2147483648 := rfl
    have h1 : sw true m = 2147483648 + m := rfl
    rw [h1]
    unfold Format.read at e ⊢
    dsimp only at e ⊢
    have q1 : (2147483648 + m) / single.signWeight % 2 = 1 := by rw [e0]; omega
    have q2 : (2147483648 + m) % single.signWeight = m := by rw [e0]; omega
    have q3 : m / single.signWeight % 2 = 0 := by rw [e0]; omega
    have q4 : m % single.signWeight = m := by rw [e0]; omega
    rw [q1, q2]
    rw [q3, q4] at e
    split at e
    · rename_i h2
      rw [if_pos h2]
      injection e with _ e1 e2
      subst e1 e2
      rfl
    · rename_i h2
      rw [if_neg h2]
      split at e
      · rename_i h3
        rw [if_pos h3]
        injection e with _ e1 e2
        subst e1 e2
        rfl
      · split at e <;> cases e
theorem product_num (s t : Bool) (m n : Nat) (p q : Int) : (Datum.number s m p).product (.number t n q) = some (.number (s ^^ t) (m * n) (p + q)) := rfl
theorem fmul_sw (s : Bool) {m u : Nat} (h : m < infW) (hu : u < infW) : fmul (sw s m) u = sw s (fmul m u) := by
  obtain ⟨a, p, e, e', _, _⟩ := read_sw s h
  obtain ⟨b, q, e2, _, _⟩ := nn_read hu
  unfold fmul Format.mul
  rw [e', e, e2, product_num, product_num, getD_map_some, getD_map_some, write_number, write_number, Bool.xor_false, Bool.xor_false, nearest_sw]
theorem quot_num (s : Bool) (d m n : Nat) (p q : Int) (hn : n ≠ 0) : (Datum.number s m p).quotient d (.number false n q) =
    some (.number (s ^^ false) (2 * (m <<< (d + n.log2 - m.log2) / n) + (m <<< (d + n.log2 - m.log2) % n != 0).toNat) (p - q - ((d + n.log2 - m.log2 : Nat) : Int) - 1)) := by
  simp only [Datum.quotient, if_neg hn]
theorem read_pos {u : Nat} (h0 : 0 < u) (hu : u < infW) : ∃ n q, single.read u = .number false n q ∧ n ≠ 0 := by
  obtain ⟨n, q, e, _, hv⟩ := nn_read hu
  refine ⟨n, q, e, ?_⟩
  rintro rfl
  have := fval_pos h0
  rw [← hv, Nat.zero_mul] at this
  exact absurd this (Nat.lt_irrefl _)
theorem fdiv_sw (s : Bool) {m u : Nat} (h : m < infW) (h0 : 0 < u) (hu : u < infW) : fdiv (sw s m) u = sw s (fdiv m u) := by
  obtain ⟨a, p, e, e', _, _⟩ := read_sw s h
  obtain ⟨b, q, e2, hb⟩ := read_pos h0 hu
  unfold fdiv Format.div
  rw [e', e, e2, quot_num _ _ _ _ _ _ hb, quot_num _ _ _ _ _ _ hb, getD_map_some, getD_map_some, write_number, write_number, Bool.xor_false, Bool.xor_false, nearest_sw]
theorem nearest_nn (M : Nat) (P : Int) : nn (single.nearest false M P) := by
  have e2 : single.infRung = 2139095040 := rfl
  unfold Format.nearest nn
  split
  · rw [word_false]; exact Nat.zero_le _
  · dsimp only
    rw [word_false, e2]
    exact Nat.min_le_right _ _
theorem nn_fdiv {x u : Nat} (hx : x < infW) (h0 : 0 < u) (hu : u < infW) : nn (fdiv x u) := by
  obtain ⟨a, p, e, _, _⟩ := nn_read hx
  obtain ⟨b, q, e2, hb⟩ := read_pos h0 hu
  unfold fdiv Format.div
  rw [e, e2, quot_num _ _ _ _ _ _ hb, getD_map_some, write_number, Bool.xor_false]
  exact nearest_nn _ _
theorem fmul_comm {x y : Nat} (hx : x < infW) (hy : y < infW) : fmul x y = fmul y x := by
  obtain ⟨a, p, e, _, _⟩ := nn_read hx
  obtain ⟨b, q, e2, _, _⟩ := nn_read hy
  unfold fmul Format.mul
  rw [e, e2, product_num, product_num, Nat.mul_comm, Int.add_comm]
theorem fmul_by_zero {x : Nat} (hx : x < infW) : fmul x 0 = 0 := by
  obtain ⟨a, p, e, _, _⟩ := nn_read hx
  have e2 : single.read 0 = .number false 0 single.leastPlace := by decide
  unfold fmul Format.mul
  rw [e, e2, product_num, Nat.mul_zero, getD_map_some, write_number, Bool.xor_false, nearest_zero]
theorem fdiv_by_zero {s : Nat} (h0 : 0 < s) (hs : s < infW) : fdiv 0 s = 0 := by
  obtain ⟨n, q, e2, hn⟩ := read_pos h0 hs
  have e1 : single.read 0 = .number false 0 single.leastPlace := by decide
  unfold fdiv Format.div
  rw [e1, e2, quot_num _ _ _ _ _ _ hn, getD_map_some, write_number, Bool.xor_false]
  have hs : ∀ k, 2 * (0 <<< k / n) + (0 <<< k % n != 0).toNat = 0 := fun k => by simp
  rw [hs]
  exact nearest_zero _
/-- Both factors. -/
theorem fmul_le {x y x' y' : Nat} (hx : x ≤ x') (hy : y ≤ y') (h0 : 0 < x') (h1 : 0 < y') (hx' : x' < infW) (hy' : y' < infW) : fmul x y ≤ fmul x' y' := by
  have n1 : nn x' := by unfold nn; unfold infW at hx'; omega
  have n2 : nn y' := by unfold nn; unfold infW at hy'; omega
  have a := fmul_mono (u := x') n2 hy h0 hx'
  rw [fmul_comm (by omega) hx', fmul_comm hy' hx'] at a
  by_cases hz : y = 0
  · rw [hz, fmul_by_zero (by omega)]; exact Nat.zero_le _
  · exact Nat.le_trans (fmul_mono (u := y) n1 hx (by omega) (by omega)) a
theorem fmul_one {x : Nat} (hx : x < infW) : fmul x 1065353216 = x := by
  have n : nn x := by unfold nn; unfold infW at hx; omega
  rw [fmul_nn n (by decide) (by decide)]
  unfold mulR
  rw [if_neg (by omega)]
  by_cases hz : x = 0
  · rw [if_pos hz, hz]
  · rw [if_neg hz]
    have h1 : fval single 1065353216 = 2 ^ 149 := by decide
    have h2 : single.leastPlace = -149 := by decide
    have hm : fval single x ≠ 0 := by have := fval_pos (x := x) (by omega); omega
    rw [h1]
    have h3 := nearest_rungOf single false hm single.leastPlace single.leastPlace (Int.le_refl _) (Int.le_refl _)
    have h4 := nearest_rungOf single false hm single.leastPlace (single.leastPlace + single.leastPlace) (by omega) (by omega)
    rw [h3, word_false, word_false, show (single.leastPlace - single.leastPlace).toNat = 0 from by omega, Nat.pow_zero, Nat.mul_one] at h4
    rw [show (2 : Nat) ^ 149 = 2 ^ (single.leastPlace - (single.leastPlace + single.leastPlace)).toNat by rw [h2]; rfl, ← h4]
    exact rungOf_self (by omega) hx
/-- A product with a part. -/
theorem fmul_part {x v : Nat} (hx : x < infW) (hv : v ≤ 1065353216) : fmul x v ≤ x := by
  by_cases hz : x = 0
  · subst hz
    have h0 := fmul_by_zero (x := v) (by unfold infW; omega)
    rw [fmul_comm (by decide) (by unfold infW; omega), h0]
    exact Nat.le_refl _
  · have := fmul_le (x := x) (y := v) (x' := x) (y' := 1065353216) (Nat.le_refl _) hv (by omega) (by decide) hx (by decide)
    rwa [fmul_one hx] at this
theorem nn_fmul' {x y : Nat} (hx : x < infW) (hy : y < infW) : nn (fmul x y) := by
  obtain ⟨a, p, e, _, _⟩ := nn_read hx
  obtain ⟨b, q, e2, _, _⟩ := nn_read hy
  unfold fmul Format.mul
  rw [e, e2, product_num, getD_map_some, write_number, Bool.xor_false]
  exact nearest_nn _ _
/-- One less a part is a part. -/
theorem fsub_part {x y : Nat} (hx : x < infW) (h : y ≤ x) : fsub x y ≤ x := by
  obtain ⟨a, p, e, hp, hv⟩ := nn_read hx
  obtain ⟨b, q, e2, hq, hu⟩ := nn_read (show y < infW by omega)
  have hle := fval_mono h
  rw [← hv, ← hu] at hle
  unfold fsub Format.sub
  rw [e, e2]
  have hbase : ∀ k : Int, single.leastPlace ≤ k → True := fun _ _ => trivial
  have hsum : (Datum.number false a p).sum (Datum.number false b q).opposite =
      some (.number false (a * 2 ^ (p - min p q).toNat - b * 2 ^ (q - min p q).toNat) (min p q)) := by
    have hle2 : b * 2 ^ (q - min p q).toNat ≤ a * 2 ^ (p - min p q).toNat := by
      have e3 : (p - single.leastPlace).toNat = (p - min p q).toNat + (min p q - single.leastPlace).toNat := by omega
      have e4 : (q - single.leastPlace).toNat = (q - min p q).toNat + (min p q - single.leastPlace).toNat := by omega
      rw [e3, e4, Nat.pow_add, Nat.pow_add, ← Nat.mul_assoc, ← Nat.mul_assoc] at hle
      exact Nat.le_of_mul_le_mul_right hle (Nat.two_pow_pos _)
    have ht : (signed false a (p - min p q).toNat + signed true b (q - min p q).toNat : Int) = ((a * 2 ^ (p - min p q).toNat - b * 2 ^ (q - min p q).toNat : Nat) : Int) := by
      rw [Int.ofNat_sub hle2]
      simp only [signed, Nat.shiftLeft_eq, if_true, Bool.false_eq_true, if_false]
      omega
    generalize a * 2 ^ (p - min p q).toNat - b * 2 ^ (q - min p q).toNat = S at ht ⊢
    simp only [Datum.opposite, Datum.sum, Bool.not_false, ht]
    rw [Int.natAbs_natCast, decide_eq_false (show ¬ ((S : Int) < 0) by omega)]
    simp
  rw [hsum, getD_map_some, write_number]
  generalize hS : a * 2 ^ (p - min p q).toNat - b * 2 ^ (q - min p q).toNat = S
  by_cases hz : S = 0
  · rw [hz, nearest_zero]; exact Nat.zero_le _
  · rw [nearest_rungOf single false hz (min p q) single.leastPlace (by omega) (Int.le_refl _), word_false]
    have hx0 : x ≠ 0 := by
      rintro rfl
      rw [fval_zero] at hv
      have ha : a = 0 := by
        rcases Nat.mul_eq_zero.1 hv with h | h
        · exact h
        · exact absurd h (Nat.pos_iff_ne_zero.1 (Nat.two_pow_pos _))
      rw [ha, Nat.zero_mul, Nat.zero_sub] at hS
      exact hz hS.symm
    have h1 : S * 2 ^ (min p q - single.leastPlace).toNat ≤ fval single x := by
      have e3 : (p - single.leastPlace).toNat = (p - min p q).toNat + (min p q - single.leastPlace).toNat := by omega
      rw [← hv, e3, Nat.pow_add, ← Nat.mul_assoc]
      exact Nat.mul_le_mul_right _ (by omega)
    have h2 := rungOf_mono single (Int.le_refl single.leastPlace) (n := S * 2 ^ (min p q - single.leastPlace).toNat) (Nat.mul_ne_zero hz (Nat.pos_iff_ne_zero.1 (Nat.two_pow_pos _))) h1
    rwa [rungOf_self (by omega) hx] at h2
theorem sw_lt (s : Bool) {m : Nat} (h : nn m) : sw s m < 4294967296 := by
  unfold nn at h
  cases s
  · show m < _; omega
  · show 2147483648 + m < _; omega
theorem isn_sw (s : Bool) {m : Nat} (h : nn m) : isn (sw s m) = false := by
  unfold nn at h
  rw [isn_eq]
  cases s
  · show decide (2139095040 < m % 2147483648) = false
    exact decide_eq_false (by omega)
  · show decide (2139095040 < (2147483648 + m) % 2147483648) = false
    exact decide_eq_false (by omega)
theorem xor_top {m : Nat} (h : m < 2147483648) : m ^^^ 2147483648 = 2147483648 + m ∧ (2147483648 + m) ^^^ 2147483648 = m := by
  have e : (2 : Nat) ^ 31 = 2147483648 := by decide
  have a1 := neg_mod m
  have a2 := neg_mod (2147483648 + m)
  have q1 := Nat.xor_div_two_pow (a := m) (b := 2147483648) (n := 31)
  have q2 := Nat.xor_div_two_pow (a := 2147483648 + m) (b := 2147483648) (n := 31)
  rw [e] at q1 q2
  rw [Nat.div_eq_of_lt h, show 2147483648 / 2147483648 = 1 by decide, show (0 : Nat) ^^^ 1 = 1 by decide] at q1
  rw [show (2147483648 + m) / 2147483648 = 1 by omega, show 2147483648 / 2147483648 = 1 by decide, show (1 : Nat) ^^^ 1 = 0 by decide] at q2
  constructor <;> omega
theorem fneg_sw (s : Bool) {m : Nat} (h : nn m) : fneg (sw s m) = sw (!s) m := by
  have hm : m < 2147483648 := by unfold nn at h; omega
  obtain ⟨x1, x2⟩ := xor_top hm
  unfold fneg
  cases s
  · show cn (m ^^^ 2147483648) = sw true m
    rw [x1]
    exact cn_of_not (isn_sw true h)
  · show cn ((2147483648 + m) ^^^ 2147483648) = m
    rw [x2]
    exact nn_cn h
theorem skey_sw (s : Bool) {m : Nat} (h : nn m) : skey single (sw s m) = if s then -(m : Int) else m := by
  unfold nn at h
  have e0 : single.signWeight = 2147483648 := rfl
  unfold skey sgnd fsgn frung
  rw [e0]
  cases s
  · have h1 : sw false m = m := rfl
    rw [h1, show m / 2147483648 = 0 from Nat.div_eq_of_lt (by omega), show m % 2147483648 = m from Nat.mod_eq_of_lt (by omega)]
    simp
  · have h1 : sw true m = 2147483648 + m := rfl
    rw [h1, show (2147483648 + m) / 2147483648 = 1 by omega, show (2147483648 + m) % 2147483648 = m by omega]
    simp
theorem flt_sw (s t : Bool) {m n : Nat} (hm : nn m) (hn : nn n) : flt (sw s m) (sw t n) = decide ((if s then -(m : Int) else m) < (if t then -(n : Int) else n)) := by
  unfold flt
  rw [order_skey single single_bi (isn_sw s hm) (isn_sw t hn), skey_sw s hm, skey_sw t hn]
  generalize (if s then -(m : Int) else (m : Int)) = a
  generalize (if t then -(n : Int) else (n : Int)) = b
  rcases Int.lt_trichotomy a b with h | h | h
  · rw [Int.compare_eq_lt.2 h, decide_eq_true h]; rfl
  · rw [Int.compare_eq_eq.2 h, decide_eq_false (by omega)]; rfl
  · rw [Int.compare_eq_gt.2 h, decide_eq_false (by omega)]; rfl
/-- The size of a number: its size, or nought with a sign. -/
theorem sizeV_sw (s : Bool) {m : Nat} (h : nn m) : sizeV (sw s m) = m ∨ (m = 0 ∧ sizeV (sw s m) = 2147483648) := by
  have hf := flt_sw s false h (show nn 0 from Nat.zero_le _)
  have hf' : flt (sw s m) 0 = decide ((if s then -(m : Int) else m) < 0) := hf
  unfold sizeV
  rw [hf']
  cases s
  · rw [decide_eq_false (by simp)]
    exact .inl rfl
  · by_cases hz : m = 0
    · subst hz
      exact .inr ⟨rfl, rfl⟩
    · rw [decide_eq_true (by simp; omega), if_pos rfl, fneg_sw true h]
      exact .inl rfl
/-- A number and nought with a sign. -/
theorem fadd_negzero {x : Nat} (hx : x < infW) : fadd x 2147483648 = x := by
  have n : nn x := by unfold nn; unfold infW at hx; omega
  have h0 := fadd_zero n
  obtain ⟨a, p, e, hp, _⟩ := nn_read hx
  have e1 : single.read 0 = .number false 0 single.leastPlace := by decide
  have e2 : single.read 2147483648 = .number true 0 single.leastPlace := by decide
  unfold fadd Format.add at *
  rw [e, e1] at h0
  rw [e, e2]
  have hs : (Datum.number false a p).sum (.number true 0 single.leastPlace) = (Datum.number false a p).sum (.number false 0 single.leastPlace) := by
    simp only [Datum.sum, signed]
    simp
  rw [hs]
  exact h0
end Go.Proofs.Ytggcajillncamaa
