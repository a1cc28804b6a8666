/- Numbers as texts of eight digits: plain. -/
import Derived.Test.YtjjafaadjfahfaaDoorIe
namespace Go.Proofs.YtjjafaadjfahfaaDoor
open Ieee
set_option maxRecDepth 100000

/-- A digit's byte. -/
def hexD (d : Nat) : UInt8 := if d < 10 then UInt8.ofNat (48 + d) else UInt8.ofNat (87 + d)
/-- The text of a word: eight digits. -/
def hexL (n : Nat) : List UInt8 := [hexD (n / 268435456 % 16), hexD (n / 16777216 % 16), hexD (n / 1048576 % 16), hexD (n / 65536 % 16), hexD (n / 4096 % 16), hexD (n / 256 % 16), hexD (n / 16 % 16), hexD (n % 16)]
/-- What a byte is worth: 0 where it is no digit. -/
def hexV (b : UInt8) : Nat := if 48 ≤ b.toNat ∧ b.toNat ≤ 57 then b.toNat - 48 else if 97 ≤ b.toNat ∧ b.toNat ≤ 102 then b.toNat - 87 else 0
def isHex (b : UInt8) : Bool := (decide (48 ≤ b.toNat) && decide (b.toNat ≤ 57)) || (decide (97 ≤ b.toNat) && decide (b.toNat ≤ 102))
/-- Bytes read on from a number. -/
def rdN : List UInt8 → Nat → Nat
  | [], n => n
  | b :: l, n => rdN l ((n * 16 + hexV b) % 4294967296)
theorem hexD_val : ∀ d : Nat, d < 16 → hexV (hexD d) = d ∧ isHex (hexD d) = true := by decide
theorem hexV_lt (b : UInt8) : hexV b < 16 := by unfold hexV; split <;> (try split) <;> omega
theorem hexL_hex (n : Nat) : (hexL n).all isHex = true := by
  have h : ∀ k, isHex (hexD (k % 16)) = true := fun k => (hexD_val _ (Nat.mod_lt _ (by decide))).2
  unfold hexL
  simp only [List.all_cons, List.all_nil, h]
  rfl
theorem rdN_hexL {m : Nat} (h : m < 4294967296) : rdN (hexL m) 0 = m := by
  have hv : ∀ k, hexV (hexD (k % 16)) = k % 16 := fun k => (hexD_val _ (Nat.mod_lt _ (by decide))).1
  unfold hexL
  simp only [rdN, hv]
  omega
theorem hexD_of {b : UInt8} (h : isHex b = true) : hexD (hexV b) = b := by
  have : ∀ k : Nat, k < 256 → isHex (UInt8.ofNat k) = true → hexD (hexV (UInt8.ofNat k)) = UInt8.ofNat k := by decide +kernel
  have h2 := this b.toNat b.toNat_lt (by simpa using h)
  simpa using h2
/-- Eight digits are the text of their number. -/
theorem hexL_rdN {l : List UInt8} (hl : l.length = 8) (h : l.all isHex = true) : hexL (rdN l 0) = l ∧ rdN l 0 < 4294967296 := by
  match l, hl with
  | [a, b, c, d, e, f, g, i], _ =>
    simp only [List.all_cons, List.all_nil, Bool.and_eq_true] at h
    obtain ⟨h1, h2, h3, h4, h5, h6, h7, h8, _⟩ := h
    have ka := hexV_lt a; have kb := hexV_lt b; have kc := hexV_lt c; have kd := hexV_lt d
    have ke := hexV_lt e; have kf := hexV_lt f; have kg := hexV_lt g; have ki := hexV_lt i
    have ea := hexD_of h1; have eb := hexD_of h2; have ec := hexD_of h3; have ed := hexD_of h4
    have ee := hexD_of h5; have ef := hexD_of h6; have eg := hexD_of h7; have ei := hexD_of h8
    have hN : rdN [a, b, c, d, e, f, g, i] 0 = hexV a * 268435456 + hexV b * 16777216 + hexV c * 1048576 + hexV d * 65536 + hexV e * 4096 + hexV f * 256 + hexV g * 16 + hexV i := by
      simp only [rdN]
      omega
    rw [hN]
    constructor
    · unfold hexL
      rw [show (hexV a * 268435456 + hexV b * 16777216 + hexV c * 1048576 + hexV d * 65536 + hexV e * 4096 + hexV f * 256 + hexV g * 16 + hexV i) / 268435456 % 16 = hexV a by omega,
        show (hexV a * 268435456 + hexV b * 16777216 + hexV c * 1048576 + hexV d * 65536 + hexV e * 4096 + hexV f * 256 + hexV g * 16 + hexV i) / 16777216 % 16 = hexV b by omega,
        show (hexV a * 268435456 + hexV b * 16777216 + hexV c * 1048576 + hexV d * 65536 + hexV e * 4096 + hexV f * 256 + hexV g * 16 + hexV i) / 1048576 % 16 = hexV c by omega,
        show (hexV a * 268435456 + hexV b * 16777216 + hexV c * 1048576 + hexV d * 65536 + hexV e * 4096 + hexV f * 256 + hexV g * 16 + hexV i) / 65536 % 16 = hexV d by omega,
        show (hexV a * 268435456 + hexV b * 16777216 + hexV c * 1048576 + hexV d * 65536 + hexV e * 4096 + hexV f * 256 + hexV g * 16 + hexV i) / 4096 % 16 = hexV e by omega,
        show (hexV a * 268435456 + hexV b * 16777216 + hexV c * 1048576 + hexV d * 65536 + hexV e * 4096 + hexV f * 256 + hexV g * 16 + hexV i) / 256 % 16 = hexV f by omega,
        show (hexV a * 268435456 + hexV b * 16777216 + hexV c * 1048576 + hexV d * 65536 + hexV e * 4096 + hexV f * 256 + hexV g * 16 + hexV i) / 16 % 16 = hexV g by omega,
        show (hexV a * 268435456 + hexV b * 16777216 + hexV c * 1048576 + hexV d * 65536 + hexV e * 4096 + hexV f * 256 + hexV g * 16 + hexV i) % 16 = hexV i by omega,
        ea, eb, ec, ed, ee, ef, eg, ei]
    · omega
theorem cn_lt {n : Nat} (h : n < 4294967296) : cn n < 4294967296 := by
  unfold cn
  split
  · decide
  · exact h
theorem rdN_lt : ∀ (l : List UInt8) (n : Nat), n < 4294967296 → rdN l n < 4294967296
  | [], _, h => h
  | _ :: l, _, _ => rdN_lt l _ (Nat.mod_lt _ (by decide))
/-- When a text is a number's: both ways of asking. -/
theorem read_iff (l : List UInt8) : hexL (cn (rdN (l.take 8) 0)) = l ↔ (l.length = 8 ∧ l.all isHex = true ∧ cn (rdN l 0) = rdN l 0) := by
  constructor
  · intro h
    have hm := cn_lt (rdN_lt (l.take 8) 0 (by decide))
    have hc := cn_cn (rdN (l.take 8) 0)
    generalize cn (rdN (l.take 8) 0) = m at h hm hc
    subst h
    exact ⟨rfl, hexL_hex m, by rw [rdN_hexL hm]; exact hc⟩
  · rintro ⟨h1, h2, h3⟩
    rw [List.take_of_length_le (by omega), h3]
    exact (hexL_rdN h1 h2).1
theorem read_val {l : List UInt8} (h : l.length = 8) : rdN (l.take 8) 0 = rdN l 0 := by rw [List.take_of_length_le (by omega)]
theorem hexL_length (n : Nat) : (hexL n).length = 8 := rfl
end Go.Proofs.YtjjafaadjfahfaaDoor
