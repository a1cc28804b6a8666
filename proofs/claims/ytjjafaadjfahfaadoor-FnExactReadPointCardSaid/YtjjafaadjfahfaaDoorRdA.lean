/- Numbers read from texts: both sides. -/
import Derived.Test.YtjjafaadjfahfaaDoorHexC
import Derived.Test.YtjjafaadjfahfaaDoorAp
import Derived.Test.YtjjafaadjfahfaaDoorKs
import Derived.Test.YtjjafaadjfahfaaDoorDrwA
import Derived.Lib.Strings
namespace Go.Proofs.YtjjafaadjfahfaaDoor
open Go.RowKit Ieee
open Go.Proofs.YtjjafaadjfahfaaDoorW.PrintWords
set_option maxRecDepth 100000
attribute [local irreducible] wpRel
/-- Whether a text is a number's. -/
def rdOk (l : List UInt8) : Bool := decide (l.length = 8) && l.all isHex && decide (cn (rdN l 0) = rdN l 0)
theorem rdN_snoc (b : UInt8) : ∀ (l : List UInt8) (n : Nat), rdN (l ++ [b]) n = (rdN l n * 16 + hexV b) % 4294967296
  | [], _ => rfl
  | c :: l, n => by rw [List.cons_append, rdN, rdN]; exact rdN_snoc b l _
theorem fbits_run (b : Nat) (w : World) : (callFunc 12 #[.int .u32 (b : Int)]).run Tryd.prog w = .ok (.value (.float .f32 b)) w := by kernel_rfl
def RdQ (ok : Bool) (rd : Nat) (w : World) (e : Ending) (w' : World) : Prop := (∃ r, e = .returned (.tuple #[.float .f32 r, .bool ok]) ∧ r < 4294967296 ∧ (ok = true → r = rd)) ∧ w = w'
theorem RdQ.bad (rd : Nat) (w : World) : RdQ false rd w (.returned (.tuple #[.float .f32 0, .bool false])) w := ⟨⟨0, rfl, by decide, fun h => by cases h⟩, rfl⟩
set_option maxHeartbeats 2000000 in
theorem l01Read_any (s : ByteArray) (hs : s.size ≤ 1048577) (w : World) :
    Calls Tryd.prog 8 #[.string s] w (RdQ (rdOk s.data.toList) (rdN s.data.toList 0) w) := by
  have hmax : s.size ≤ maxLen := by unfold maxLen; omega
  by_cases h8 : s.size = 8
  · have HLEN := Lib.hid (show s.data.toList.length = 8 from h8)
    have H8 := Lib.hid h8
    have x8 : ((s.size : Int) != 8) = false := by simp; omega
    clear h8 hs hmax
    obtain ⟨ok, hok⟩ : ∃ ok, rdOk s.data.toList = ok := ⟨_, rfl⟩
    rw [hok]
    have HOK := Lib.hid hok
    clear hok
    obtain ⟨rd, hrd⟩ : ∃ rd, rdN s.data.toList 0 = rd := ⟨_, rfl⟩
    rw [hrd]
    have HRD := Lib.hid hrd
    clear hrd
    go_enter Tryd.func8, Tryd.ntmps8
    go_wp2
    go_loop [4, 5] (fun n i => ∃ k : Nat, k ≤ 8 ∧ n = .int .u32 ((rdN (s.data.toList.take k) 0 : Nat) : Int) ∧ i = .int .i64 (k : Nat) ∧ Hid ((s.data.toList.take k).all isHex = true)) (fun _ i => 8 - (intOf i).toNat)
    case atStart => exact ⟨0, Nat.zero_le _, rfl, rfl, Lib.hid rfl⟩
    case round =>
      obtain ⟨k, hk, rfl, rfl, HA⟩ := hrel
      by_cases hlt : k < 8
      · have hks : k < s.size := by have := H8.out; omega
        have hget : s.data.toList.take (k + 1) = s.data.toList.take k ++ [s[k]] := by rw [List.take_succ_eq_append_getElem (by rw [HLEN.out]; exact hlt)]; rfl
        have HT := Lib.hid (show rdN (s.data.toList.take (k + 1)) 0 = (rdN (s.data.toList.take k) 0 * 16 + hexV s[k]) % 4294967296 by rw [hget, rdN_snoc])
        have HA2 := Lib.hid (fun (h : isHex s[k] = true) => show (s.data.toList.take (k + 1)).all isHex = true by rw [hget, List.all_append, HA.out]; simp [h])
        have HA3 := Lib.hid (fun (h : isHex s[k] = false) => show rdOk s.data.toList = false by
          have hm : s[k] ∈ s.data.toList := by
            have : s[k] ∈ s.data.toList.take (k + 1) := by rw [hget]; simp
            exact List.mem_of_mem_take this
          have : s.data.toList.all isHex = false := by
            rw [Bool.eq_false_iff]
            intro hall
            rw [List.all_eq_true.1 hall _ hm] at h
            cases h
          unfold rdOk
          rw [this]; simp)
        have hn := rdN_lt (s.data.toList.take k) 0 (by decide)
        obtain ⟨n, hnn⟩ : ∃ n, rdN (s.data.toList.take k) 0 = n := ⟨_, rfl⟩
        rw [hnn] at hn HT ⊢
        have HN := Lib.hid hn
        have hb256 : s[k].toNat < 256 := s[k].toNat_lt
        obtain ⟨b, hbb⟩ : ∃ b, s[k] = b := ⟨_, rfl⟩
        have hx1 : (k : Int) < (s.size : Int) := by omega
        have hx2 : (0 : Int) ≤ (k : Int) := by omega
        clear hget hnn hn
        by_cases hd : 48 ≤ s[k].toNat ∧ s[k].toNat ≤ 57
        · have y1 : (48 : Int) ≤ (s[k].toNat : Int) := by omega
          have y2 : (s[k].toNat : Int) ≤ 57 := by omega
          have HH := Lib.hid hd
          clear hbb hd
          go_wp2
          go_round
          case rel =>
            refine ⟨k + 1, hlt, ?_, by go_num, Lib.hid (HA2.out (by unfold isHex; simp [HH.out]))⟩
            rw [HT.out]
            have hv : hexV s[k] = s[k].toNat - 48 := by unfold hexV; rw [if_pos HH.out]
            rw [hv]
            have := HH.out
            congr 1
            omega
          case measure => simp [intOf]; omega
        · by_cases hd2 : 97 ≤ s[k].toNat ∧ s[k].toNat ≤ 102
          · have y1 : (97 : Int) ≤ (s[k].toNat : Int) := by omega
            have y2 : (s[k].toNat : Int) ≤ 102 := by omega
            have HH := Lib.hid hd2
            have HG := Lib.hid hd
            clear hbb hd hd2
            go_wp2
            go_round
            case rel =>
              refine ⟨k + 1, hlt, ?_, by go_num, Lib.hid (HA2.out (by unfold isHex; simp [HH.out]))⟩
              rw [HT.out]
              have hv : hexV s[k] = s[k].toNat - 87 := by unfold hexV; rw [if_neg HG.out, if_pos (by have := HH.out; omega)]
              rw [hv]
              have := HH.out
              congr 1
              omega
            case measure => simp [intOf]; omega
          · have hbad := HA3.out (by
              unfold isHex
              rw [Bool.or_eq_false_iff, Bool.and_eq_false_iff, Bool.and_eq_false_iff]
              simp; omega)
            obtain rfl : ok = false := HOK.out.symm.trans hbad
            have HH := Lib.hid hd
            have HG := Lib.hid hd2
            clear hbb hbad HA3 HA2
            by_cases z1 : s[k].toNat < 48
            · have y1 : (s[k].toNat : Int) < 48 := by omega
              clear hd hd2
              go_wp2
              go_ret2
              exact RdQ.bad _ _
            · by_cases z2 : s[k].toNat < 97
              · have y1 : (57 : Int) < (s[k].toNat : Int) := by omega
                have y2 : (s[k].toNat : Int) < 97 := by omega
                clear hd hd2
                go_wp2
                go_ret2
                exact RdQ.bad _ _
              · have y1 : (102 : Int) < (s[k].toNat : Int) := by omega
                clear hd hd2
                go_wp2
                go_ret2
                exact RdQ.bad _ _
      · obtain rfl : k = 8 := by omega
        have htk : s.data.toList.take 8 = s.data.toList := List.take_of_length_le (by rw [HLEN.out]; exact Nat.le_refl _)
        rw [htk] at HA ⊢
        rw [HRD.out]
        have hn := rdN_lt s.data.toList 0 (by decide)
        rw [HRD.out] at hn
        have hok : rdOk s.data.toList = decide (cn rd = rd) := by unfold rdOk; rw [HLEN.out, HA.out, HRD.out]; simp
        obtain rfl : ok = decide (cn rd = rd) := HOK.out.symm.trans hok
        obtain ⟨n, rfl⟩ : ∃ n, n = rd := ⟨_, rfl⟩
        have HN := Lib.hid hn
        have HFV := Lib.hid (show FV n (cn n) from ⟨rfl, hn⟩)
        clear hok hn htk hlt HA
        have hfb := fbits_run
        go_wp2_with (go_at_call 13; refine (l01Bits_any n (cn n) HFV.out _).mono ?_; rintro e w' ⟨rfl, rfl⟩)
        go_ret2
        refine ⟨⟨n, ?_, HN.out, fun _ => rfl⟩, rfl⟩
        have e : ((cn n : Int) == (n : Int)) = decide (cn n = n) := by
          rw [Bool.eq_iff_iff, beq_iff_eq, decide_eq_true_eq]; exact ⟨fun h => Int.ofNat.inj h, fun h => by rw [h]⟩
        rw [e]; rfl
  · have x8 : ((s.size : Int) != 8) = true := by simp; omega
    have hb : rdOk s.data.toList = false := by unfold rdOk; rw [show s.data.toList.length = s.size from rfl]; simp [h8]
    rw [hb]
    go_enter Tryd.func8, Tryd.ntmps8
    go_wp2
    go_ret2
    exact RdQ.bad _ _
theorem l01Read_ok (s : ByteArray) (hs : s.size ≤ 1048577) (h : rdOk s.data.toList = true) (w : World) :
    Calls Tryd.prog 8 #[.string s] w fun e w' => e = .returned (.tuple #[.float .f32 (rdN s.data.toList 0), .bool true]) ∧ w = w' := by
  refine (l01Read_any s hs w).mono ?_
  rintro e w' ⟨⟨r, rfl, _, h2⟩, rfl⟩
  rw [h, h2 h]
  exact ⟨rfl, rfl⟩
theorem l01Read_no (s : ByteArray) (hs : s.size ≤ 1048577) (h : rdOk s.data.toList = false) (w : World) :
    Calls Tryd.prog 8 #[.string s] w fun e w' => (∃ r, e = .returned (.tuple #[.float .f32 r, .bool false])) ∧ w = w' := by
  refine (l01Read_any s hs w).mono ?_
  rintro e w' ⟨⟨r, rfl, _, _⟩, rfl⟩
  rw [h]
  exact ⟨⟨r, rfl⟩, rfl⟩
end Go.Proofs.YtjjafaadjfahfaaDoor
