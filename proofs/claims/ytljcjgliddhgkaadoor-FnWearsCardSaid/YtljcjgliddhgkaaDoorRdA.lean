/- Numbers read from texts: both sides. A number read from a text: the program's function. Decimal numbers read from texts: the model's function. -/
import Derived.Test.YtljcjgliddhgkaaDoorHex
import Derived.Test.YtljcjgliddhgkaaDoorAp
import Derived.Test.YtljcjgliddhgkaaDoorKs
import Derived.Test.YtljcjgliddhgkaaDoorDrwA
import Derived.Lib.Strings
import Derived.Test.YtljcjgliddhgkaaDoorShelf
namespace Go.Proofs.YtljcjgliddhgkaaDoor
open Go.RowKit Ieee
open Go.Proofs.YtljcjgliddhgkaaDoorW.PrintWords
set_option maxRecDepth 100000
attribute [local irreducible] wpRel
/-- Whether a text is a number's. -/
def rdOk (l : List UInt8) : Bool := decide (l.length = 8) && l.all isHex && decide (cn (rdN l 0) = rdN l 0)
theorem rdN_snoc (b : UInt8) : ∀ (l : List UInt8) (n : Nat), rdN (l ++ [b]) n = (rdN l n * 16 + hexV b) % 4294967296
  | [], _ => rfl
  | c :: l, n => by rw [List.cons_append, rdN, rdN]; exact rdN_snoc b l _
theorem fbits_run (b : Nat) (w : World) : (callFunc 59 #[.int .u32 (b : Int)]).run Tryd.prog w = .ok (.value (.float .f32 b)) w := by kernel_rfl
def RdQ (ok : Bool) (rd : Nat) (w : World) (e : Ending) (w' : World) : Prop := (∃ r, e = .returned (.tuple #[.float .f32 r, .bool ok]) ∧ r < 4294967296 ∧ (ok = true → r = rd)) ∧ w = w'
theorem RdQ.bad (rd : Nat) (w : World) : RdQ false rd w (.returned (.tuple #[.float .f32 0, .bool false])) w := ⟨⟨0, rfl, by decide, fun h => by cases h⟩, rfl⟩
set_option maxHeartbeats 2000000 in
theorem l01Read_any (s : ByteArray) (hs : s.size ≤ 1048577) (w : World) :
    Calls Tryd.prog 31 #[.string s] w (RdQ (rdOk s.data.toList) (rdN s.data.toList 0) w) := by
  have hmax : s.size ≤ maxLen := by unfold maxLen; omega
  by_cases h8 : s.size = 8
  · have HLEN := Lib.hid (show s.data.toList.length = 8 from h8)
    have H8 := Lib.hid h8
    have x8 : ((s.size : Int) != 8) = false := by simp; omega
    clear h8 hs hmax
    obtain ⟨ok, hok⟩ : ∃ ok, rdOk s.data.toList = ok := ⟨_, rfl⟩
    rw [hok]
    have HOK := Lib.hid hok
    clear hok
    obtain ⟨rd, hrd⟩ : ∃ rd, rdN s.data.toList 0 = rd := ⟨_, rfl⟩
    rw [hrd]
    have HRD := Lib.hid hrd
    clear hrd
    go_enter Tryd.func31, Tryd.ntmps31
    go_wp2
    go_loop [4, 5] (fun n i => ∃ k : Nat, k ≤ 8 ∧ n = .int .u32 ((rdN (s.data.toList.take k) 0 : Nat) : Int) ∧ i = .int .i64 (k : Nat) ∧ Hid ((s.data.toList.take k).all isHex = true)) (fun _ i => 8 - (intOf i).toNat)
    case atStart => exact ⟨0, Nat.zero_le _, rfl, rfl, Lib.hid rfl⟩
    case round =>
      obtain ⟨k, hk, rfl, rfl, HA⟩ := hrel
      by_cases hlt : k < 8
      · have hks : k < s.size := by have := H8.out; omega
        have hget : s.data.toList.take (k + 1) = s.data.toList.take k ++ [s[k]] := by rw [List.take_succ_eq_append_getElem (by rw [HLEN.out]; exact hlt)]; rfl
        have HT := Lib.hid (show rdN (s.data.toList.take (k + 1)) 0 = (rdN (s.data.toList.take k) 0 * 16 + hexV s[k]) % 4294967296 by rw [hget, rdN_snoc])
        have HA2 := Lib.hid (fun (h : isHex s[k] = true) => show (s.data.toList.take (k + 1)).all isHex = true by rw [hget, List.all_append, HA.out]; simp [h])
        have HA3 := Lib.hid (fun (h : isHex s[k] = false) => show rdOk s.data.toList = false by
          have hm : s[k] ∈ s.data.toList := by
            have : s[k] ∈ s.data.toList.take (k + 1) := by rw [hget]; simp
            exact List.mem_of_mem_take this
          have : s.data.toList.all isHex = false := by
            rw [Bool.eq_false_iff]
            intro hall
            rw [List.all_eq_true.1 hall _ hm] at h
            cases h
          unfold rdOk
          rw [this]; simp)
        have hn := rdN_lt (s.data.toList.take k) 0 (by decide)
        obtain ⟨n, hnn⟩ : ∃ n, rdN (s.data.toList.take k) 0 = n := ⟨_, rfl⟩
        rw [hnn] at hn HT ⊢
        have HN := Lib.hid hn
        have hb256 : s[k].toNat < 256 := s[k].toNat_lt
        obtain ⟨b, hbb⟩ : ∃ b, s[k] = b := ⟨_, rfl⟩
        have hx1 : (k : Int) < (s.size : Int) := by omega
        have hx2 : (0 : Int) ≤ (k : Int) := by omega
        clear hget hnn hn
        by_cases hd : 48 ≤ s[k].toNat ∧ s[k].toNat ≤ 57
        · have y1 : (48 : Int) ≤ (s[k].toNat : Int) := by omega
          have y2 : (s[k].toNat : Int) ≤ 57 := by omega
          have HH := Lib.hid hd
          clear hbb hd
          go_wp2
          go_round
          case rel =>
            refine ⟨k + 1, hlt, ?_, by go_num, Lib.hid (HA2.out (by unfold isHex; simp [HH.out]))⟩
            rw [HT.out]
            have hv : hexV s[k] = s[k].toNat - 48 := by unfold hexV; rw [if_pos HH.out]
            rw [hv]
            have := HH.out
            congr 1
            omega
          case measure => simp [intOf]; omega
        · by_cases hd2 : 97 ≤ s[k].toNat ∧ s[k].toNat ≤ 102
          · have y1 : (97 : Int) ≤ (s[k].toNat : Int) := by omega
            have y2 : (s[k].toNat : Int) ≤ 102 := by omega
            have HH := Lib.hid hd2
            have HG := Lib.hid hd
            clear hbb hd hd2
            go_wp2
            go_round
            case rel =>
              refine ⟨k + 1, hlt, ?_, by go_num, Lib.hid (HA2.out (by unfold isHex; simp [HH.out]))⟩
              rw [HT.out]
              have hv : hexV s[k] = s[k].toNat - 87 := by unfold hexV; rw [if_neg HG.out, if_pos (by have := HH.out; omega)]
              rw [hv]
              have := HH.out
              congr 1
              omega
            case measure => simp [intOf]; omega
          · have hbad := HA3.out (by
              unfold isHex
              rw [Bool.or_eq_false_iff, Bool.and_eq_false_iff, Bool.and_eq_false_iff]
              simp; omega)
            obtain rfl : ok = false := HOK.out.symm.trans hbad
            have HH := Lib.hid hd
            have HG := Lib.hid hd2
            clear hbb hbad HA3 HA2
            by_cases z1 : s[k].toNat < 48
            · have y1 : (s[k].toNat : Int) < 48 := by omega
              clear hd hd2
              go_wp2
              go_ret2
              exact RdQ.bad _ _
            · by_cases z2 : s[k].toNat < 97
              · have y1 : (57 : Int) < (s[k].toNat : Int) := by omega
                have y2 : (s[k].toNat : Int) < 97 := by omega
                clear hd hd2
                go_wp2
                go_ret2
                exact RdQ.bad _ _
              · have y1 : (102 : Int) < (s[k].toNat : Int) := by omega
                clear hd hd2
                go_wp2
                go_ret2
                exact RdQ.bad _ _
      · obtain rfl : k = 8 := by omega
        have htk : s.data.toList.take 8 = s.data.toList := List.take_of_length_le (by rw [HLEN.out]; exact Nat.le_refl _)
        rw [htk] at HA ⊢
        rw [HRD.out]
        have hn := rdN_lt s.data.toList 0 (by decide)
        rw [HRD.out] at hn
        have hok : rdOk s.data.toList = decide (cn rd = rd) := by unfold rdOk; rw [HLEN.out, HA.out, HRD.out]; simp
        obtain rfl : ok = decide (cn rd = rd) := HOK.out.symm.trans hok
        obtain ⟨n, rfl⟩ : ∃ n, n = rd := ⟨_, rfl⟩
        have HN := Lib.hid hn
        have HFV := Lib.hid (show FV n (cn n) from ⟨rfl, hn⟩)
        clear hok hn htk hlt HA
        have hfb := fbits_run
        go_wp2_with (go_at_call 60; refine (l01Bits_any n (cn n) HFV.out _).mono ?_; rintro e w' ⟨rfl, rfl⟩)
        go_ret2
        refine ⟨⟨n, ?_, HN.out, fun _ => rfl⟩, rfl⟩
        have e : ((cn n : Int) == (n : Int)) = decide (cn n = n) := by
          rw [Bool.eq_iff_iff, beq_iff_eq, decide_eq_true_eq]; exact ⟨fun h => Int.ofNat.inj h, fun h => by rw [h]⟩
        rw [e]; rfl
  · have x8 : ((s.size : Int) != 8) = true := by simp; omega
    have hb : rdOk s.data.toList = false := by unfold rdOk; rw [show s.data.toList.length = s.size from rfl]; simp [h8]
    rw [hb]
    go_enter Tryd.func31, Tryd.ntmps31
    go_wp2
    go_ret2
    exact RdQ.bad _ _
theorem l01Read_ok (s : ByteArray) (hs : s.size ≤ 1048577) (h : rdOk s.data.toList = true) (w : World) :
    Calls Tryd.prog 31 #[.string s] w fun e w' => e = .returned (.tuple #[.float .f32 (rdN s.data.toList 0), .bool true]) ∧ w = w' := by
  refine (l01Read_any s hs w).mono ?_
  rintro e w' ⟨⟨r, rfl, _, h2⟩, rfl⟩
  rw [h, h2 h]
  exact ⟨rfl, rfl⟩
theorem l01Read_no (s : ByteArray) (hs : s.size ≤ 1048577) (h : rdOk s.data.toList = false) (w : World) :
    Calls Tryd.prog 31 #[.string s] w fun e w' => (∃ r, e = .returned (.tuple #[.float .f32 r, .bool false])) ∧ w = w' := by
  refine (l01Read_any s hs w).mono ?_
  rintro e w' ⟨⟨r, rfl, _, _⟩, rfl⟩
  rw [h]
  exact ⟨⟨r, rfl⟩, rfl⟩
end Go.Proofs.YtljcjgliddhgkaaDoor
namespace Go.Proofs.YtljcjgliddhgkaaDoor
open Go.RowKit Ieee
open Go.Proofs.YtljcjgliddhgkaaDoorW.PrintWords
set_option maxRecDepth 100000
attribute [local irreducible] wpRel
theorem ix_val (b : UInt8) : Go.Lib.indexByte digLit.data.toList b = if isHex b then (hexV b : Int) else -1 := by
  have : ∀ k : Nat, k < 256 → Go.Lib.indexByte digLit.data.toList (UInt8.ofNat k) = if isHex (UInt8.ofNat k) then (hexV (UInt8.ofNat k) : Int) else -1 := by decide +kernel
  have h2 := this b.toNat b.toNat_lt
  simpa using h2
theorem hexV_no {b : UInt8} (h : isHex b = false) : hexV b = 0 := by
  have : ∀ k : Nat, k < 256 → isHex (UInt8.ofNat k) = false → hexV (UInt8.ofNat k) = 0 := by decide +kernel
  have h2 := this b.toNat b.toNat_lt
  simp at h2
  exact h2 h
theorem or4 {a b : Nat} (ha : a < 268435456) (hb : b < 16) : (a * 16) ||| b = a * 16 + b := by
  have h := Nat.two_pow_add_eq_or_of_lt (i := 4) hb a
  rw [show 2 ^ 4 * a = a * 16 by omega] at h
  omega
theorem bits_or_u32 {n b : Nat} (hb : b < 16) : bits .or .u32 ((n : Int) * 16 % 4294967296) (b : Int) = (((n * 16 + b) % 4294967296 : Nat) : Int) := by
  have e0 : (n : Int) * 16 % 4294967296 = ((n % 268435456 * 16 : Nat) : Int) := by omega
  rw [e0]
  have ha : n % 268435456 * 16 < 4294967296 := by omega
  have hb' : b < 4294967296 := by omega
  have h1 : (BitVec.ofInt 32 ((n % 268435456 * 16 : Nat) : Int)).toNat = n % 268435456 * 16 := by
    rw [BitVec.ofInt_natCast, BitVec.toNat_ofNat]; exact Nat.mod_eq_of_lt (by omega)
  have h2 : (BitVec.ofInt 32 (b : Int)).toNat = b := by
    rw [BitVec.ofInt_natCast, BitVec.toNat_ofNat]; exact Nat.mod_eq_of_lt (by omega)
  show IntKind.u32.wrap ((BitVec.ofInt 32 ((n % 268435456 * 16 : Nat) : Int) ||| BitVec.ofInt 32 (b : Int)).toNat : Int) = _
  rw [BitVec.toNat_or, h1, h2, or4 (by omega) hb, IntKind.wrap_u32]
  omega
theorem ix_any (b : UInt8) (w : World) : Calls Tryd.prog 72 #[.string ⟨#[48, 49, 50, 51, 52, 53, 54, 55, 56, 57, 97, 98, 99, 100, 101, 102]⟩, .int .u8 (b.toNat : Int)] w fun e w' => e = .returned (.int .i64 (if isHex b then (hexV b : Int) else -1)) ∧ w = w' := by
  refine (Tryd.strings_IndexByte digLit (b.toNat : Int) w).mono ?_
  rintro e w' ⟨rfl, rfl⟩
  refine ⟨?_, rfl⟩
  have e : ((b.toNat : Int)).toNat.toUInt8 = b := by simp
  rw [e, ix_val]
theorem ix_yes (b : UInt8) (hb : isHex b = true) (w : World) : Calls Tryd.prog 72 #[.string ⟨#[48, 49, 50, 51, 52, 53, 54, 55, 56, 57, 97, 98, 99, 100, 101, 102]⟩, .int .u8 (b.toNat : Int)] w fun e w' => e = .returned (.int .i64 (hexV b : Nat)) ∧ w = w' := by
  have := ix_any b w
  rw [hb] at this
  exact this
theorem ix_no (b : UInt8) (hb : isHex b = false) (w : World) : Calls Tryd.prog 72 #[.string ⟨#[48, 49, 50, 51, 52, 53, 54, 55, 56, 57, 97, 98, 99, 100, 101, 102]⟩, .int .u8 (b.toNat : Int)] w fun e w' => e = .returned (.int .i64 (-1)) ∧ w = w' := by
  have := ix_any b w
  rw [hb] at this
  exact this
/-- What comes of reading a text. -/
def rnV (l : List UInt8) : Value := if rdOk l then .tuple #[.float .f32 (rdN l 0), .int .i64 0] else .tuple #[.float .f32 0, .int .i64 5]
set_option maxHeartbeats 2000000 in
theorem readNumber_any (s : ByteArray) (hs : s.size ≤ 1048577) (w : World) :
    Calls Tryd.prog 62 #[.string s] w fun e w' => e = .returned (rnV s.data.toList) ∧ Below w.heap.size w w' := by
  have hmax : s.size ≤ maxLen := by unfold maxLen; omega
  obtain ⟨q, hq⟩ : ∃ q : Nat, min s.size 8 = q := ⟨_, rfl⟩
  have hmin : (min (s.size : Int) 8) = (q : Int) := by omega
  go_enter Tryd.func62, Tryd.ntmps62
  go_wp2
  go_loop [4, 10] (fun n i => ∃ k : Nat, k ≤ q ∧ n = .int .u32 ((rdN (s.data.toList.take k) 0 : Nat) : Int) ∧ i = .int .i64 (k : Nat)) (fun _ i => q - (intOf i).toNat)
  case atStart => exact ⟨0, Nat.zero_le _, rfl, rfl⟩
  case round =>
    obtain ⟨k, hk, rfl, rfl⟩ := hrel
    by_cases hlt : k < q
    · have hks : k < s.size := by omega
      have HLEN := Lib.hid (show s.data.toList.length = s.size from rfl)
      have hget : s.data.toList.take (k + 1) = s.data.toList.take k ++ [s[k]] := by rw [List.take_succ_eq_append_getElem (by rw [HLEN.out]; exact hks)]; rfl
      have HT := Lib.hid (show rdN (s.data.toList.take (k + 1)) 0 = (rdN (s.data.toList.take k) 0 * 16 + hexV s[k]) % 4294967296 by rw [hget, rdN_snoc])
      have hn := rdN_lt (s.data.toList.take k) 0 (by decide)
      obtain ⟨n, hnn⟩ : ∃ n, rdN (s.data.toList.take k) 0 = n := ⟨_, rfl⟩
      rw [hnn] at hn HT ⊢
      have HN := Lib.hid hn
      have hx1 : (k : Int) < (s.size : Int) := by omega
      have hx2 : (0 : Int) ≤ (k : Int) := by omega
      have hx3 : (k : Int) < (q : Int) := by omega
      have hv := hexV_lt s[k]
      have z1 : (hexV s[k] : Int) < 16 := by omega
      have z2 : (0 : Int) ≤ (hexV s[k] : Int) := by omega
      clear hget hnn hn hmin hq
      cases hb : isHex s[k]
      · have hv0 := hexV_no hb
        have HB := Lib.hid hb
        clear hb
        go_wp2_with (go_at_call 72; refine (ix_no s[k] HB.out _).mono ?_; rintro e w' ⟨rfl, rfl⟩)
        go_round
        case rel =>
          refine ⟨k + 1, hlt, ?_, by go_num⟩
          rw [HT.out, hv0, ← bits_or_u32 (by decide)]
          rfl
        case measure => simp [intOf]; omega
      · have HB := Lib.hid hb
        clear hb
        go_wp2_with (go_at_call 72; refine (ix_yes s[k] HB.out _).mono ?_; rintro e w' ⟨rfl, rfl⟩)
        go_round
        case rel =>
          refine ⟨k + 1, hlt, ?_, by go_num⟩
          rw [HT.out, ← bits_or_u32 hv]
        case measure => simp [intOf]; omega
    · obtain rfl : k = q := by omega
      have hfb := fbits_run
      have htk : s.data.toList.take k = s.data.toList.take 8 := by
        rcases Nat.le_total s.size 8 with h | h
        · rw [List.take_of_length_le (show s.data.toList.length ≤ 8 from h), List.take_of_length_le (show s.data.toList.length ≤ k from by show s.size ≤ k; omega)]
        · rw [show k = 8 by omega]
      rw [htk]
      have hn := rdN_lt (s.data.toList.take 8) 0 (by decide)
      obtain ⟨n, hnn⟩ : ∃ n, rdN (s.data.toList.take 8) 0 = n := ⟨_, rfl⟩
      rw [hnn] at hn ⊢
      have HFV := Lib.hid (show FV n (cn n) from ⟨rfl, hn⟩)
      have hiff := read_iff s.data.toList
      rw [hnn] at hiff
      have heq : ∀ x : List UInt8, ((⟨x.toArray⟩ : ByteArray) = s) ↔ (x = s.data.toList) := fun x => by
        constructor
        · intro h; rw [← h]
        · intro h; rw [h]
      have HI := Lib.hid (And.intro hiff (And.intro (heq (hexL (cn n))) hnn))
      clear hmin hq htk hlt hiff hn hnn heq
      go_wp2_with (go_at_call 56; refine (numberText_impl n (cn n) HFV.out _).mono ?_; rintro e w1 ⟨rfl, hb1⟩; have hc1 := bc hb1; have hf1 := bf hb1; have hs1 := hb1.size; (try simp at hs1); (try have hz10 : w.heap.size < w1.heap.size := by omega); (try have hz11 : w.heap.size + 1 < w1.heap.size := by omega); (try have hz12 : w.heap.size + 1 + 1 < w1.heap.size := by omega); (try have hz13 : w.heap.size + 1 + 1 + 1 < w1.heap.size := by omega))
      · rename_i h
        have hl : hexL (cn n) = s.data.toList := by rw [Go.Lib.toList_data] at h; simpa using h
        have hrd : rdOk s.data.toList = true := by
          have h2 := HI.out.1.1 hl
          unfold rdOk; simp [h2.1, h2.2.1, h2.2.2]
        have h8 := (HI.out.1.1 hl).1
        have hv : rnV s.data.toList = .tuple #[.float .f32 n, .int .i64 0] := by
          unfold rnV
          rw [hrd, ← HI.out.2.2, read_val h8]; rfl
        rw [hv]
        go_ret2
        exact ⟨rfl, hb1⟩
      · rename_i h
        have hl : hexL (cn n) ≠ s.data.toList := by rw [Go.Lib.toList_data] at h; simpa using h
        have hrd : rdOk s.data.toList = false := by
          rw [Bool.eq_false_iff]
          intro h2
          unfold rdOk at h2
          simp only [Bool.and_eq_true, decide_eq_true_eq] at h2
          exact hl (HI.out.1.2 ⟨h2.1.1, h2.1.2, h2.2⟩)
        have hv : rnV s.data.toList = .tuple #[.float .f32 0, .int .i64 5] := by
          unfold rnV
          rw [hrd]; rfl
        rw [hv]
        go_ret2
        exact ⟨rfl, hb1⟩
end Go.Proofs.YtljcjgliddhgkaaDoor
namespace Go.Proofs.YtljcjgliddhgkaaDoor
open Go.RowKit Ieee
open Go.Proofs.YtljcjgliddhgkaaDoorW.PrintWords
set_option maxRecDepth 100000
attribute [local irreducible] wpRel
def isDg (b : UInt8) : Bool := decide (48 ≤ b.toNat) && decide (b.toNat ≤ 57)
/-- Whether a text is a decimal number of one to nine digits, with no nought ahead. -/
def nmOk (l : List UInt8) : Bool := decide (1 ≤ l.length) && decide (l.length ≤ 9) && !(decide (l.head? = some 48) && decide (1 < l.length)) && l.all isDg
/-- Digits read on from a number. -/
def nmV : List UInt8 → Nat → Nat
  | [], n => n
  | b :: l, n => nmV l (n * 10 + (b.toNat - 48))
theorem nmV_snoc (b : UInt8) : ∀ (l : List UInt8) (n : Nat), nmV (l ++ [b]) n = nmV l n * 10 + (b.toNat - 48)
  | [], _ => rfl
  | c :: l, n => by rw [List.cons_append, nmV, nmV]; exact nmV_snoc b l _
theorem nmV_ge : ∀ (l : List UInt8) (n : Nat), n ≤ nmV l n
  | [], _ => Nat.le_refl _
  | b :: l, n => by rw [nmV]; have := nmV_ge l (n * 10 + (b.toNat - 48)); omega
theorem nmV_lt : ∀ (l : List UInt8) (n k : Nat), l.all isDg = true → n < k → nmV l n < k * 10 ^ l.length
  | [], n, k, _, h => by simpa [nmV] using h
  | b :: l, n, k, ha, h => by
    rw [nmV, List.length_cons, Nat.pow_succ]
    rw [List.all_cons, Bool.and_eq_true] at ha
    have hb := ha.1
    unfold isDg at hb
    simp at hb
    have := nmV_lt l (n * 10 + (b.toNat - 48)) (k * 10) ha.2 (by omega)
    calc _ < k * 10 * 10 ^ l.length := this
      _ = k * (10 ^ l.length * 10) := by rw [Nat.mul_assoc, Nat.mul_comm 10]
/-- The numbers up to one. -/
theorem nm_01 (l : List UInt8) : (nmOk l = true ∧ nmV l 0 ≤ 1) ↔ (l = [48] ∨ l = [49]) := by
  constructor
  · rintro ⟨h1, h2⟩
    unfold nmOk at h1
    simp only [Bool.and_eq_true, Bool.not_eq_true', decide_eq_true_eq] at h1
    obtain ⟨⟨⟨h3, h4⟩, h5⟩, h6⟩ := h1
    match l, h3, h5, h6, h2 with
    | [b], _, _, h6, h2 =>
      simp [isDg] at h6
      simp [nmV] at h2
      have : b.toNat = 48 ∨ b.toNat = 49 := by omega
      rcases this with h | h
      · left; rw [show b = 48 from UInt8.toNat_inj.1 h]
      · right; rw [show b = 49 from UInt8.toNat_inj.1 h]
    | b :: c :: l, _, h5, h6, h2 =>
      exfalso
      simp at h5
      rw [List.all_cons, Bool.and_eq_true] at h6
      have hb := h6.1
      simp [isDg] at hb
      have hb2 : b.toNat ≠ 48 := fun e => h5 (UInt8.toNat_inj.1 e)
      rw [nmV, nmV] at h2
      have := nmV_ge l ((0 * 10 + (b.toNat - 48)) * 10 + (c.toNat - 48))
      omega
  · rintro (rfl | rfl) <;> decide
def NmQ (ok : Bool) (n : Nat) (w : World) (e : Ending) (w' : World) : Prop := (∃ r : Int, e = .returned (.tuple #[.int .i64 r, .bool ok]) ∧ (ok = true → r = n)) ∧ w = w'
theorem NmQ.bad (n : Nat) (w : World) : NmQ false n w (.returned (.tuple #[.int .i64 0, .bool false])) w := ⟨⟨0, rfl, fun h => by cases h⟩, rfl⟩
set_option maxHeartbeats 2000000 in
theorem l01Number_any (s : ByteArray) (hs : s.size ≤ 1048577) (w : World) :
    Calls Tryd.prog 32 #[.string s] w (NmQ (nmOk s.data.toList) (nmV s.data.toList 0) w) := by
  have hlen : s.data.toList.length = s.size := rfl
  have hmax : s.size ≤ maxLen := by unfold maxLen; omega
  obtain ⟨ok, hok⟩ : ∃ ok, nmOk s.data.toList = ok := ⟨_, rfl⟩
  obtain ⟨rd, hrd⟩ : ∃ rd, nmV s.data.toList 0 = rd := ⟨_, rfl⟩
  rw [hok, hrd]
  have hun := hok
  unfold nmOk at hun
  rw [hlen] at hun
  by_cases h1 : s.size < 1
  · have e : ok = false := by rw [← hun]; simp; omega
    subst e
    have x1 : (s.size : Int) < 1 := by omega
    clear hok hrd hun hlen h1
    go_enter Tryd.func32, Tryd.ntmps32
    go_wp2
    go_ret2
    exact NmQ.bad _ _
  by_cases h9 : 9 < s.size
  · have e : ok = false := by rw [← hun]; simp; omega
    subst e
    have x1 : (9 : Int) < (s.size : Int) := by omega
    clear hok hrd hun hlen h1
    go_enter Tryd.func32, Tryd.ntmps32
    go_wp2
    go_ret2
    exact NmQ.bad _ _
  have h0 : 0 < s.size := by omega
  have hh : s.data.toList.head? = some s[0] := by rw [List.head?_eq_getElem?, List.getElem?_eq_getElem (by rw [hlen]; exact h0)]; rfl
  rw [hh] at hun
  by_cases hz : s[0] = 48 ∧ 1 < s.size
  · have e : ok = false := by rw [← hun]; simp [hz]
    subst e
    have x1 : (1 : Int) < (s.size : Int) := by omega
    have x2 : (s.size : Int) ≤ 9 := by omega
    have x3 : ((s[0].toNat : Int) == 48) = true := by rw [hz.1]; rfl
    clear hok hrd hun hlen h1 hh hz
    go_enter Tryd.func32, Tryd.ntmps32
    go_wp2
    go_ret2
    exact NmQ.bad _ _
  have hsz : s.size ≤ 9 := by omega
  have hok2 : ok = s.data.toList.all isDg := by
    rw [← hun]
    have e1 : decide (1 ≤ s.size) = true := by simp; omega
    have e2 : decide (s.size ≤ 9) = true := by simp; omega
    have e3 : (decide (some s[0] = some 48) && decide (1 < s.size)) = false := by
      rw [Bool.eq_false_iff]
      intro e
      simp at e
      exact hz e
    rw [e1, e2, e3]; rfl
  have HOK := Lib.hid hok2
  have HRD := Lib.hid hrd
  have HLEN := Lib.hid hlen
  have HSZ := Lib.hid hsz
  have x1 : (1 : Int) ≤ (s.size : Int) := by omega
  have x2 : (s.size : Int) ≤ 9 := by omega
  have key : ∀ x3b : Bool, ((s[0].toNat : Int) == 48) = x3b → (x3b = true → (s.size : Int) ≤ 1) → Calls Tryd.prog 32 #[.string s] w (NmQ ok rd w) := by
    intro x3b hx3 hx4
    clear hok hrd hun hlen h1 h9 hh hz hok2 hsz
    cases x3b
    · clear hx4
      go_enter Tryd.func32, Tryd.ntmps32
      go_wp2
      go_loop [4, 5] (fun n i => ∃ k : Nat, k ≤ s.size ∧ n = .int .i64 ((nmV (s.data.toList.take k) 0 : Nat) : Int) ∧ i = .int .i64 (k : Nat) ∧ Hid ((s.data.toList.take k).all isDg = true)) (fun _ i => s.size - (intOf i).toNat)
      case atStart => exact ⟨0, Nat.zero_le _, rfl, rfl, Lib.hid rfl⟩
      case round =>
        obtain ⟨k, hk, rfl, rfl, HA⟩ := hrel
        clear hx3
        by_cases hlt : k < s.size
        · have hget : s.data.toList.take (k + 1) = s.data.toList.take k ++ [s[k]] := by rw [List.take_succ_eq_append_getElem (by rw [HLEN.out]; exact hlt)]; rfl
          have HT := Lib.hid (show nmV (s.data.toList.take (k + 1)) 0 = nmV (s.data.toList.take k) 0 * 10 + (s[k].toNat - 48) by rw [hget, nmV_snoc])
          have HA2 := Lib.hid (fun (h : isDg s[k] = true) => show (s.data.toList.take (k + 1)).all isDg = true by rw [hget, List.all_append, HA.out]; simp [h])
          have HA3 := Lib.hid (fun (h : isDg s[k] = false) => show ok = false by
            rw [HOK.out]
            have hm : s[k] ∈ s.data.toList := by
              have : s[k] ∈ s.data.toList.take (k + 1) := by rw [hget]; simp
              exact List.mem_of_mem_take this
            rw [Bool.eq_false_iff]
            intro hall
            rw [List.all_eq_true.1 hall _ hm] at h
            cases h)
          have hn : nmV (s.data.toList.take k) 0 < 1000000000 := by
            have h1 := nmV_lt (s.data.toList.take k) 0 1 HA.out (by decide)
            have h2 : (s.data.toList.take k).length ≤ 9 := by rw [List.length_take]; have := HSZ.out; omega
            have h3 : 10 ^ (s.data.toList.take k).length ≤ 10 ^ 9 := Nat.pow_le_pow_right (by decide) h2
            omega
          obtain ⟨n, hnn⟩ : ∃ n, nmV (s.data.toList.take k) 0 = n := ⟨_, rfl⟩
          rw [hnn] at hn HT ⊢
          have hb256 : s[k].toNat < 256 := s[k].toNat_lt
          have HY := Lib.hid hn
          have y4 : (0 : Int) ≤ (n : Int) := by omega
          have hx1 : (k : Int) < (s.size : Int) := by omega
          have hx2 : (0 : Int) ≤ (k : Int) := by omega
          clear hget hnn hn x1 x2
          by_cases hd : 48 ≤ s[k].toNat ∧ s[k].toNat ≤ 57
          · have y1 : (48 : Int) ≤ (s[k].toNat : Int) := by omega
            have y2 : (s[k].toNat : Int) ≤ 57 := by omega
            have HH := Lib.hid hd
            clear hd HA3
            go_wp2
            go_round
            case rel =>
              refine ⟨k + 1, hlt, ?_, by go_num, Lib.hid (HA2.out (by unfold isDg; simp [HH.out]))⟩
              rw [HT.out]
              have := HH.out
              have hy := HY.out
              have e1 : wrap64 ((n : Int) * 10) = (n : Int) * 10 := by unfold wrap64; omega
              rw [e1]
              have e2 : wrap64 ((n : Int) * 10 + ((s[k].toNat : Int) - 48)) = (n : Int) * 10 + ((s[k].toNat : Int) - 48) := by unfold wrap64; omega
              rw [e2]
              congr 1
              omega
            case measure => simp [intOf]; omega
          · have hbad := HA3.out (by
              unfold isDg
              rw [Bool.and_eq_false_iff]
              simp; omega)
            subst hbad
            clear HA3 HA2
            by_cases z1 : s[k].toNat < 48
            · have y1 : (s[k].toNat : Int) < 48 := by omega
              clear hd
              go_wp2
              go_ret2
              exact NmQ.bad _ _
            · have y1 : (57 : Int) < (s[k].toNat : Int) := by omega
              clear hd
              go_wp2
              go_ret2
              exact NmQ.bad _ _
        · obtain rfl : k = s.size := by omega
          have htk : s.data.toList.take s.size = s.data.toList := List.take_of_length_le (Nat.le_of_eq HLEN.out)
          rw [htk] at HA ⊢
          rw [HRD.out]
          obtain rfl : ok = true := by rw [HOK.out, HA.out]
          clear htk hlt HA
          go_wp2
          go_ret2
          exact ⟨⟨_, rfl, fun _ => rfl⟩, rfl⟩
    · have hx5 := hx4 rfl
      clear hx4
      go_enter Tryd.func32, Tryd.ntmps32
      go_wp2
      go_loop [4, 5] (fun n i => ∃ k : Nat, k ≤ s.size ∧ n = .int .i64 ((nmV (s.data.toList.take k) 0 : Nat) : Int) ∧ i = .int .i64 (k : Nat) ∧ Hid ((s.data.toList.take k).all isDg = true)) (fun _ i => s.size - (intOf i).toNat)
      case atStart => exact ⟨0, Nat.zero_le _, rfl, rfl, Lib.hid rfl⟩
      case round =>
        obtain ⟨k, hk, rfl, rfl, HA⟩ := hrel
        clear hx3 hx5
        by_cases hlt : k < s.size
        · have hget : s.data.toList.take (k + 1) = s.data.toList.take k ++ [s[k]] := by rw [List.take_succ_eq_append_getElem (by rw [HLEN.out]; exact hlt)]; rfl
          have HT := Lib.hid (show nmV (s.data.toList.take (k + 1)) 0 = nmV (s.data.toList.take k) 0 * 10 + (s[k].toNat - 48) by rw [hget, nmV_snoc])
          have HA2 := Lib.hid (fun (h : isDg s[k] = true) => show (s.data.toList.take (k + 1)).all isDg = true by rw [hget, List.all_append, HA.out]; simp [h])
          have HA3 := Lib.hid (fun (h : isDg s[k] = false) => show ok = false by
            rw [HOK.out]
            have hm : s[k] ∈ s.data.toList := by
              have : s[k] ∈ s.data.toList.take (k + 1) := by rw [hget]; simp
              exact List.mem_of_mem_take this
            rw [Bool.eq_false_iff]
            intro hall
            rw [List.all_eq_true.1 hall _ hm] at h
            cases h)
          have hn : nmV (s.data.toList.take k) 0 < 1000000000 := by
            have h1 := nmV_lt (s.data.toList.take k) 0 1 HA.out (by decide)
            have h2 : (s.data.toList.take k).length ≤ 9 := by rw [List.length_take]; have := HSZ.out; omega
            have h3 : 10 ^ (s.data.toList.take k).length ≤ 10 ^ 9 := Nat.pow_le_pow_right (by decide) h2
            omega
          obtain ⟨n, hnn⟩ : ∃ n, nmV (s.data.toList.take k) 0 = n := ⟨_, rfl⟩
          rw [hnn] at hn HT ⊢
          have hb256 : s[k].toNat < 256 := s[k].toNat_lt
          have HY := Lib.hid hn
          have y4 : (0 : Int) ≤ (n : Int) := by omega
          have hx1 : (k : Int) < (s.size : Int) := by omega
          have hx2 : (0 : Int) ≤ (k : Int) := by omega
          clear hget hnn hn x1 x2
          by_cases hd : 48 ≤ s[k].toNat ∧ s[k].toNat ≤ 57
          · have y1 : (48 : Int) ≤ (s[k].toNat : Int) := by omega
            have y2 : (s[k].toNat : Int) ≤ 57 := by omega
            have HH := Lib.hid hd
            clear hd HA3
            go_wp2
            go_round
            case rel =>
              refine ⟨k + 1, hlt, ?_, by go_num, Lib.hid (HA2.out (by unfold isDg; simp [HH.out]))⟩
              rw [HT.out]
              have := HH.out
              have hy := HY.out
              have e1 : wrap64 ((n : Int) * 10) = (n : Int) * 10 := by unfold wrap64; omega
              rw [e1]
              have e2 : wrap64 ((n : Int) * 10 + ((s[k].toNat : Int) - 48)) = (n : Int) * 10 + ((s[k].toNat : Int) - 48) := by unfold wrap64; omega
              rw [e2]
              congr 1
              omega
            case measure => simp [intOf]; omega
          · have hbad := HA3.out (by
              unfold isDg
              rw [Bool.and_eq_false_iff]
              simp; omega)
            subst hbad
            clear HA3 HA2
            by_cases z1 : s[k].toNat < 48
            · have y1 : (s[k].toNat : Int) < 48 := by omega
              clear hd
              go_wp2
              go_ret2
              exact NmQ.bad _ _
            · have y1 : (57 : Int) < (s[k].toNat : Int) := by omega
              clear hd
              go_wp2
              go_ret2
              exact NmQ.bad _ _
        · obtain rfl : k = s.size := by omega
          have htk : s.data.toList.take s.size = s.data.toList := List.take_of_length_le (Nat.le_of_eq HLEN.out)
          rw [htk] at HA ⊢
          rw [HRD.out]
          obtain rfl : ok = true := by rw [HOK.out, HA.out]
          clear htk hlt HA
          go_wp2
          go_ret2
          exact ⟨⟨_, rfl, fun _ => rfl⟩, rfl⟩
  by_cases h48 : s[0] = 48
  · exact key true (by rw [h48]; rfl) (fun _ => by have : ¬ 1 < s.size := fun e => hz ⟨h48, e⟩; omega)
  · refine key false ?_ (fun e => by cases e)
    have : s[0].toNat ≠ 48 := fun e => h48 (UInt8.toNat_inj.1 e)
    simp; omega
end Go.Proofs.YtljcjgliddhgkaaDoor
