/- Decimal numbers as texts: both sides, up to three digits. -/
import Derived.Test.YtdekolkngokmpaaDoorShelf
import Derived.Test.YtdekolkngokmpaaDoorDcP
import Derived.Test.YtdekolkngokmpaaDoorIe
import Derived.Lib.ItoaNum
import Derived.Lib.ItoaMem
import Derived.Lib.AppendIntMem
import Derived.Lib.SmallJoins
namespace Go.Proofs.YtdekolkngokmpaaDoor
open Go.RowKit
set_option maxRecDepth 100000
theorem dc_byte {n : Nat} (h : n < 10) : ((UInt8.ofNat (48 + n)).toNat : Int) = 48 + (n : Int) := by
  have : ∀ k : Nat, k < 10 → ((UInt8.ofNat (48 + k)).toNat : Int) = 48 + (k : Int) := by decide
  exact this n h
theorem dc_len {n : Nat} (h : n < 1000) : (Go.Lib.decDigits n).length ≤ 3 := by
  by_cases h1 : n < 10
  · rw [Go.Lib.decDigits_one h1]; simp
  · by_cases h2 : n < 100
    · rw [Go.Lib.decDigits_two h1 h2]; simp
    · rw [Go.Lib.decDigits, dif_neg h1, Go.Lib.decDigits_two (by omega) (by omega)]
      simp
theorem str_one {n : Nat} (h : n < 10) : strOfNums [(wrap64 (48 + (n : Int))) % 256] = ⟨#[UInt8.ofNat (48 + n)]⟩ := by
  have e : (wrap64 (48 + (n : Int))) % 256 = 48 + (n : Int) := by unfold wrap64; omega
  rw [e]
  have : ∀ k : Nat, k < 10 → strOfNums [48 + (k : Int)] = ⟨#[UInt8.ofNat (48 + k)]⟩ := by decide
  exact this n h
theorem dec_f : ∀ (k n : Nat), n < 10 ^ k → n < 1000 → Dc.spec_Decimal.f k (n : Int) = some ⟨(Go.Lib.decDigits n).toArray⟩ ∨ k = 0
  | 0, _, _, _ => .inr rfl
  | k + 1, n, h, hn => by
    left
    simp only [Dc.spec_Decimal.f]
    by_cases h1 : n < 10
    · rw [if_neg (by omega), str_one h1, Go.Lib.decDigits_one h1]
    · rw [if_pos (by omega)]
      have e1 : wrap64 (Int.tdiv (n : Int) 10) = ((n / 10 : Nat) : Int) := by
        have : Int.tdiv (n : Int) 10 = ((n / 10 : Nat) : Int) := by rw [Int.tdiv_eq_ediv_of_nonneg (by omega)]; omega
        rw [this]; unfold wrap64; omega
      have e2 : Int.tmod (n : Int) 10 = ((n % 10 : Nat) : Int) := by rw [Int.tmod_eq_emod_of_nonneg (by omega)]; omega
      have hp : n / 10 < 10 ^ k := by rw [Nat.pow_succ] at h; omega
      have hk : k ≠ 0 := by rintro rfl; simp at hp; omega
      rw [e1, e2, (dec_f k (n / 10) hp (by omega)).resolve_right hk]
      simp only [Option.bind_some]
      rw [str_one (by omega)]
      have hl := dc_len (n := n / 10) (by omega)
      rw [if_pos (by
        have e3 : (⟨(Go.Lib.decDigits (n / 10)).toArray⟩ : ByteArray).size = (Go.Lib.decDigits (n / 10)).length := by show (Go.Lib.decDigits (n / 10)).toArray.size = _; simp
        have e4 : (⟨#[UInt8.ofNat (48 + n % 10)]⟩ : ByteArray).size = 1 := rfl
        omega)]
      have e5 : Go.Lib.decDigits n = Go.Lib.decDigits (n / 10) ++ [UInt8.ofNat (48 + n % 10)] := by rw [Go.Lib.decDigits, dif_neg h1]
      rw [e5]
      congr 1
theorem decimalS_any (n : Nat) (hn : n < 1000) (w : World) : Calls Tryd.prog 24 #[.int .i64 (n : Int)] w fun e w' => e = .returned (.string ⟨(Go.Lib.decDigits n).toArray⟩) ∧ Below w.heap.size w w' :=
  Dc.spec_Decimal.calls 3 (n : Int) _ w ((dec_f 3 n (by omega) hn).resolve_right (by decide))
theorem decimalI_small (n : Nat) (hn : n < 100) (w : World) : Calls Tryd.prog 16 #[.int .i64 (n : Int)] w fun e w' => e = .returned (.string ⟨(Go.Lib.decDigits n).toArray⟩) ∧ Below w.heap.size w w' := by
  have H := Lib.hid (Tryd.strconv_FormatInt_10_small n hn)
  clear hn
  obtain ⟨d, hd⟩ : ∃ d, Go.Lib.decDigits n = d := ⟨_, rfl⟩
  rw [hd] at H ⊢
  clear hd
  go_enter Tryd.func16, Tryd.ntmps16
  go_wp2_with (go_at_call 27; refine (H.out _).mono ?_; rintro e w1 ⟨rfl, rfl⟩)
  go_ret
  exact ⟨rfl, Below.refl _ _⟩
theorem decimalI_any (n : Nat) (hn : n < 1000000) (w : World) (ht : Lib.TabIs Tryd.prog w "internal/strconv.uint64pow10" .u64 Lib.pow10Tab) : Calls Tryd.prog 16 #[.int .i64 (n : Int)] w fun e w' => e = .returned (.string ⟨(Go.Lib.decDigits n).toArray⟩) ∧ Below w.heap.size w w' := by
  have H : ∀ w, Lib.TabIs Tryd.prog w "internal/strconv.uint64pow10" .u64 Lib.pow10Tab → Calls Tryd.prog 27 #[.int .i64 (n : Int), .int .i64 10] w fun e w' => e = .returned (.string ⟨(Go.Lib.decDigits n).toArray⟩) ∧ Below w.heap.size w w' := fun w hw =>
    (Tryd.strconv_FormatInt_10 (n : Int) (by omega) (by omega) w hw).mono (by
      rintro e w' ⟨rfl, k, os, rfl⟩
      exact ⟨by rw [Go.Lib.itoa_nonneg], Lib.below_grow _ _ (Nat.le_refl _) _ _⟩)
  have H2 := Lib.hid (H w ht)
  clear hn ht H
  obtain ⟨d, hd⟩ : ∃ d, Go.Lib.decDigits n = d := ⟨_, rfl⟩
  rw [hd] at H2 ⊢
  clear hd
  go_enter Tryd.func16, Tryd.ntmps16
  go_wp2_with (go_at_call 27; refine (H2.out).mono ?_; rintro e w1 ⟨rfl, hb⟩)
  go_ret
  exact ⟨rfl, hb⟩
end Go.Proofs.YtdekolkngokmpaaDoor
