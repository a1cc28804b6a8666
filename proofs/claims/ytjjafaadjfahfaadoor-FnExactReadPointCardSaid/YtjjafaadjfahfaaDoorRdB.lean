/- A number read from a text: the program's function. -/
import Derived.Test.YtjjafaadjfahfaaDoorRdA
import Derived.Test.YtjjafaadjfahfaaDoorShelf
import Derived.Test.YtjjafaadjfahfaaDoorSplA
namespace Go.Proofs.YtjjafaadjfahfaaDoor
open Go.RowKit Ieee
open Go.Proofs.YtjjafaadjfahfaaDoorW.PrintWords
set_option maxRecDepth 100000
attribute [local irreducible] wpRel
theorem ix_val (b : UInt8) : Go.Lib.indexByte digLit.data.toList b = if isHex b then (hexV b : Int) else -1 := by
  have : ∀ k : Nat, k < 256 → Go.Lib.indexByte digLit.data.toList (UInt8.ofNat k) = if isHex (UInt8.ofNat k) then (hexV (UInt8.ofNat k) : Int) else -1 := by decide +kernel
  have h2 := this b.toNat b.toNat_lt
  simpa using h2
theorem hexV_no {b : UInt8} (h : isHex b = false) : hexV b = 0 := by
  have : ∀ k : Nat, k < 256 → isHex (UInt8.ofNat k) = false → hexV (UInt8.ofNat k) = 0 := by decide +kernel
  have h2 := this b.toNat b.toNat_lt
  simp at h2
  exact h2 h
theorem or4 {a b : Nat} (ha : a < 268435456) (hb : b < 16) : (a * 16) ||| b = a * 16 + b := by
  have h := Nat.two_pow_add_eq_or_of_lt (i := 4) hb a
  rw [show 2 ^ 4 * a = a * 16 by omega] at h
  omega
theorem bits_or_u32 {n b : Nat} (hb : b < 16) : bits .or .u32 ((n : Int) * 16 % 4294967296) (b : Int) = (((n * 16 + b) % 4294967296 : Nat) : Int) := by
  have e0 : (n : Int) * 16 % 4294967296 = ((n % 268435456 * 16 : Nat) : Int) := by omega
  rw [e0]
  have ha : n % 268435456 * 16 < 4294967296 := by omega
  have hb' : b < 4294967296 := by omega
  have h1 : (BitVec.ofInt 32 ((n % 268435456 * 16 : Nat) : Int)).toNat = n % 268435456 * 16 := by
    rw [BitVec.ofInt_natCast, BitVec.toNat_ofNat]; exact Nat.mod_eq_of_lt (by omega)
  have h2 : (BitVec.ofInt 32 (b : Int)).toNat = b := by
    rw [BitVec.ofInt_natCast, BitVec.toNat_ofNat]; exact Nat.mod_eq_of_lt (by omega)
  show IntKind.u32.wrap ((BitVec.ofInt 32 ((n % 268435456 * 16 : Nat) : Int) ||| BitVec.ofInt 32 (b : Int)).toNat : Int) = _
  rw [BitVec.toNat_or, h1, h2, or4 (by omega) hb, IntKind.wrap_u32]
  omega
theorem ix_any (b : UInt8) (w : World) : Calls Tryd.prog 17 #[.string ⟨#[48, 49, 50, 51, 52, 53, 54, 55, 56, 57, 97, 98, 99, 100, 101, 102]⟩, .int .u8 (b.toNat : Int)] w fun e w' => e = .returned (.int .i64 (if isHex b then (hexV b : Int) else -1)) ∧ w = w' := by
  refine (Tryd.strings_IndexByte digLit (b.toNat : Int) w).mono ?_
  rintro e w' ⟨rfl, rfl⟩
  refine ⟨?_, rfl⟩
  have e : ((b.toNat : Int)).toNat.toUInt8 = b := by simp
  rw [e, ix_val]
theorem ix_yes (b : UInt8) (hb : isHex b = true) (w : World) : Calls Tryd.prog 17 #[.string ⟨#[48, 49, 50, 51, 52, 53, 54, 55, 56, 57, 97, 98, 99, 100, 101, 102]⟩, .int .u8 (b.toNat : Int)] w fun e w' => e = .returned (.int .i64 (hexV b : Nat)) ∧ w = w' := by
  have := ix_any b w
  rw [hb] at this
  exact this
theorem ix_no (b : UInt8) (hb : isHex b = false) (w : World) : Calls Tryd.prog 17 #[.string ⟨#[48, 49, 50, 51, 52, 53, 54, 55, 56, 57, 97, 98, 99, 100, 101, 102]⟩, .int .u8 (b.toNat : Int)] w fun e w' => e = .returned (.int .i64 (-1)) ∧ w = w' := by
  have := ix_any b w
  rw [hb] at this
  exact this
/-- What comes of reading a text. -/
def rnV (l : List UInt8) : Value := if rdOk l then .tuple #[.float .f32 (rdN l 0), .int .i64 0] else .tuple #[.float .f32 0, .int .i64 5]
set_option maxHeartbeats 2000000 in
theorem readNumber_any (s : ByteArray) (hs : s.size ≤ 1048577) (w : World) :
    Calls Tryd.prog 14 #[.string s] w fun e w' => e = .returned (rnV s.data.toList) ∧ Below w.heap.size w w' := by
  have hmax : s.size ≤ maxLen := by unfold maxLen; omega
  obtain ⟨q, hq⟩ : ∃ q : Nat, min s.size 8 = q := ⟨_, rfl⟩
  have hmin : (min (s.size : Int) 8) = (q : Int) := by omega
  go_enter Tryd.func14, Tryd.ntmps14
  go_wp2
  go_loop [4, 10] (fun n i => ∃ k : Nat, k ≤ q ∧ n = .int .u32 ((rdN (s.data.toList.take k) 0 : Nat) : Int) ∧ i = .int .i64 (k : Nat)) (fun _ i => q - (intOf i).toNat)
  case atStart => exact ⟨0, Nat.zero_le _, rfl, rfl⟩
  case round =>
    obtain ⟨k, hk, rfl, rfl⟩ := hrel
    by_cases hlt : k < q
    · have hks : k < s.size := by omega
      have HLEN := Lib.hid (show s.data.toList.length = s.size from rfl)
      have hget : s.data.toList.take (k + 1) = s.data.toList.take k ++ [s[k]] := by rw [List.take_succ_eq_append_getElem (by rw [HLEN.out]; exact hks)]; rfl
      have HT := Lib.hid (show rdN (s.data.toList.take (k + 1)) 0 = (rdN (s.data.toList.take k) 0 * 16 + hexV s[k]) % 4294967296 by rw [hget, rdN_snoc])
      have hn := rdN_lt (s.data.toList.take k) 0 (by decide)
      obtain ⟨n, hnn⟩ : ∃ n, rdN (s.data.toList.take k) 0 = n := ⟨_, rfl⟩
      rw [hnn] at hn HT ⊢
      have HN := Lib.hid hn
      have hx1 : (k : Int) < (s.size : Int) := by omega
      have hx2 : (0 : Int) ≤ (k : Int) := by omega
      have hx3 : (k : Int) < (q : Int) := by omega
      have hv := hexV_lt s[k]
      have z1 : (hexV s[k] : Int) < 16 := by omega
      have z2 : (0 : Int) ≤ (hexV s[k] : Int) := by omega
      clear hget hnn hn hmin hq
      cases hb : isHex s[k]
      · have hv0 := hexV_no hb
        have HB := Lib.hid hb
        clear hb
        go_wp2_with (go_at_call 17; refine (ix_no s[k] HB.out _).mono ?_; rintro e w' ⟨rfl, rfl⟩)
        go_round
        case rel =>
          refine ⟨k + 1, hlt, ?_, by go_num⟩
          rw [HT.out, hv0, ← bits_or_u32 (by decide)]
          rfl
        case measure => simp [intOf]; omega
      · have HB := Lib.hid hb
        clear hb
        go_wp2_with (go_at_call 17; refine (ix_yes s[k] HB.out _).mono ?_; rintro e w' ⟨rfl, rfl⟩)
        go_round
        case rel =>
          refine ⟨k + 1, hlt, ?_, by go_num⟩
          rw [HT.out, ← bits_or_u32 hv]
        case measure => simp [intOf]; omega
    · obtain rfl : k = q := by omega
      have hfb := fbits_run
      have htk : s.data.toList.take k = s.data.toList.take 8 := by
        rcases Nat.le_total s.size 8 with h | h
        · rw [List.take_of_length_le (show s.data.toList.length ≤ 8 from h), List.take_of_length_le (show s.data.toList.length ≤ k from by show s.size ≤ k; omega)]
        · rw [show k = 8 by omega]
      rw [htk]
      have hn := rdN_lt (s.data.toList.take 8) 0 (by decide)
      obtain ⟨n, hnn⟩ : ∃ n, rdN (s.data.toList.take 8) 0 = n := ⟨_, rfl⟩
      rw [hnn] at hn ⊢
      have HFV := Lib.hid (show FV n (cn n) from ⟨rfl, hn⟩)
      have hiff := read_iff s.data.toList
      rw [hnn] at hiff
      have heq : ∀ x : List UInt8, ((⟨x.toArray⟩ : ByteArray) = s) ↔ (x = s.data.toList) := fun x => by
        constructor
        · intro h; rw [← h]
        · intro h; rw [h]
      have HI := Lib.hid (And.intro hiff (And.intro (heq (hexL (cn n))) hnn))
      clear hmin hq htk hlt hiff hn hnn heq
      go_wp2_with (go_at_call 18; refine (numberText_impl n (cn n) HFV.out _).mono ?_; rintro e w1 ⟨rfl, hb1⟩; have hc1 := bc hb1; have hf1 := bf hb1; have hs1 := hb1.size; (try simp at hs1); (try have hz10 : w.heap.size < w1.heap.size := by omega); (try have hz11 : w.heap.size + 1 < w1.heap.size := by omega); (try have hz12 : w.heap.size + 1 + 1 < w1.heap.size := by omega); (try have hz13 : w.heap.size + 1 + 1 + 1 < w1.heap.size := by omega))
      · rename_i h
        have hl : hexL (cn n) = s.data.toList := by rw [Go.Lib.toList_data] at h; simpa using h
        have hrd : rdOk s.data.toList = true := by
          have h2 := HI.out.1.1 hl
          unfold rdOk; simp [h2.1, h2.2.1, h2.2.2]
        have h8 := (HI.out.1.1 hl).1
        have hv : rnV s.data.toList = .tuple #[.float .f32 n, .int .i64 0] := by
          unfold rnV
          rw [hrd, ← HI.out.2.2, read_val h8]; rfl
        rw [hv]
        go_ret2
        exact ⟨rfl, hb1⟩
      · rename_i h
        have hl : hexL (cn n) ≠ s.data.toList := by rw [Go.Lib.toList_data] at h; simpa using h
        have hrd : rdOk s.data.toList = false := by
          rw [Bool.eq_false_iff]
          intro h2
          unfold rdOk at h2
          simp only [Bool.and_eq_true, decide_eq_true_eq] at h2
          exact hl (HI.out.1.2 ⟨h2.1.1, h2.1.2, h2.2⟩)
        have hv : rnV s.data.toList = .tuple #[.float .f32 0, .int .i64 5] := by
          unfold rnV
          rw [hrd]; rfl
        rw [hv]
        go_ret2
        exact ⟨rfl, hb1⟩
end Go.Proofs.YtjjafaadjfahfaaDoor
