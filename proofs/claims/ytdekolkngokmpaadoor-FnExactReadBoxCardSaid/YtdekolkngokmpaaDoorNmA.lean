/- Decimal numbers read from texts: the model's function. -/
import Derived.Test.YtdekolkngokmpaaDoorAp
import Derived.Test.YtdekolkngokmpaaDoorKs
import Derived.Test.YtdekolkngokmpaaDoorRow
import Derived.Lib.Strings
namespace Go.Proofs.YtdekolkngokmpaaDoor
open Go.RowKit Ieee
open Go.Proofs.YtdekolkngokmpaaDoorW.PrintWords
set_option maxRecDepth 100000
attribute [local irreducible] wpRel
def isDg (b : UInt8) : Bool := decide (48 ≤ b.toNat) && decide (b.toNat ≤ 57)
/-- Whether a text is a decimal number of one to nine digits, with no nought ahead. -/
def nmOk (l : List UInt8) : Bool := decide (1 ≤ l.length) && decide (l.length ≤ 9) && !(decide (l.head? = some 48) && decide (1 < l.length)) && l.all isDg
/-- Digits read on from a number. -/
def nmV : List UInt8 → Nat → Nat
  | [], n => n
  | b :: l, n => nmV l (n * 10 + (b.toNat - 48))
theorem nmV_snoc (b : UInt8) : ∀ (l : List UInt8) (n : Nat), nmV (l ++ [b]) n = nmV l n * 10 + (b.toNat - 48)
  | [], _ => rfl
  | c :: l, n => by rw [List.cons_append, nmV, nmV]; exact nmV_snoc b l _
theorem nmV_ge : ∀ (l : List UInt8) (n : Nat), n ≤ nmV l n
  | [], _ => Nat.le_refl _
  | b :: l, n => by rw [nmV]; have := nmV_ge l (n * 10 + (b.toNat - 48)); omega
theorem nmV_lt : ∀ (l : List UInt8) (n k : Nat), l.all isDg = true → n < k → nmV l n < k * 10 ^ l.length
  | [], n, k, _, h => by simpa [nmV] using h
  | b :: l, n, k, ha, h => by
    rw [nmV, List.length_cons, Nat.pow_succ]
    rw [List.all_cons, Bool.and_eq_true] at ha
    have hb := ha.1
    unfold isDg at hb
    simp at hb
    have := nmV_lt l (n * 10 + (b.toNat - 48)) (k * 10) ha.2 (by omega)
    calc _ < k * 10 * 10 ^ l.length := this
      _ = k * (10 ^ l.length * 10) := by rw [Nat.mul_assoc, Nat.mul_comm 10]
/-- The numbers up to one. -/
theorem nm_01 (l : List UInt8) : (nmOk l = true ∧ nmV l 0 ≤ 1) ↔ (l = [48] ∨ l = [49]) := by
  constructor
  · rintro ⟨h1, h2⟩
    unfold nmOk at h1
    simp only [Bool.and_eq_true, Bool.not_eq_true', decide_eq_true_eq] at h1
    obtain ⟨⟨⟨h3, h4⟩, h5⟩, h6⟩ := h1
    match l, h3, h5, h6, h2 with
    | [b], _, _, h6, h2 =>
      simp [isDg] at h6
      simp [nmV] at h2
      have : b.toNat = 48 ∨ b.toNat = 49 := by omega
      rcases this with h | h
      · left; rw [show b = 48 from UInt8.toNat_inj.1 h]
      · right; rw [show b = 49 from UInt8.toNat_inj.1 h]
    | b :: c :: l, _, h5, h6, h2 =>
      exfalso
      simp at h5
      rw [List.all_cons, Bool.and_eq_true] at h6
      have hb := h6.1
      simp [isDg] at hb
      have hb2 : b.toNat ≠ 48 := fun e => h5 (UInt8.toNat_inj.1 e)
      rw [nmV, nmV] at h2
      have := nmV_ge l ((0 * 10 + (b.toNat - 48)) * 10 + (c.toNat - 48))
      omega
  · rintro (rfl | rfl) <;> decide
def NmQ (ok : Bool) (n : Nat) (w : World) (e : Ending) (w' : World) : Prop := (∃ r : Int, e = .returned (.tuple #[.int .i64 r, .bool ok]) ∧ (ok = true → r = n)) ∧ w = w'
theorem NmQ.bad (n : Nat) (w : World) : NmQ false n w (.returned (.tuple #[.int .i64 0, .bool false])) w := ⟨⟨0, rfl, fun h => by cases h⟩, rfl⟩
set_option maxHeartbeats 2000000 in
theorem l01Number_any (s : ByteArray) (hs : s.size ≤ 1048577) (w : World) :
    Calls Tryd.prog 19 #[.string s] w (NmQ (nmOk s.data.toList) (nmV s.data.toList 0) w) := by
  have hlen : s.data.toList.length = s.size := rfl
  have hmax : s.size ≤ maxLen := by unfold maxLen; omega
  obtain ⟨ok, hok⟩ : ∃ ok, nmOk s.data.toList = ok := ⟨_, rfl⟩
  obtain ⟨rd, hrd⟩ : ∃ rd, nmV s.data.toList 0 = rd := ⟨_, rfl⟩
  rw [hok, hrd]
  have hun := hok
  unfold nmOk at hun
  rw [hlen] at hun
  by_cases h1 : s.size < 1
  · have e : ok = false := by rw [← hun]; simp; omega
    subst e
    have x1 : (s.size : Int) < 1 := by omega
    clear hok hrd hun hlen h1
    go_enter Tryd.func19, Tryd.ntmps19
    go_wp2
    go_ret2
    exact NmQ.bad _ _
  by_cases h9 : 9 < s.size
  · have e : ok = false := by rw [← hun]; simp; omega
    subst e
    have x1 : (9 : Int) < (s.size : Int) := by omega
    clear hok hrd hun hlen h1
    go_enter Tryd.func19, Tryd.ntmps19
    go_wp2
    go_ret2
    exact NmQ.bad _ _
  have h0 : 0 < s.size := by omega
  have hh : s.data.toList.head? = some s[0] := by rw [List.head?_eq_getElem?, List.getElem?_eq_getElem (by rw [hlen]; exact h0)]; rfl
  rw [hh] at hun
  by_cases hz : s[0] = 48 ∧ 1 < s.size
  · have e : ok = false := by rw [← hun]; simp [hz]
    subst e
    have x1 : (1 : Int) < (s.size : Int) := by omega
    have x2 : (s.size : Int) ≤ 9 := by omega
    have x3 : ((s[0].toNat : Int) == 48) = true := by rw [hz.1]; rfl
    clear hok hrd hun hlen h1 hh hz
    go_enter Tryd.func19, Tryd.ntmps19
    go_wp2
    go_ret2
    exact NmQ.bad _ _
  have hsz : s.size ≤ 9 := by omega
  have hok2 : ok = s.data.toList.all isDg := by
    rw [← hun]
    have e1 : decide (1 ≤ s.size) = true := by simp; omega
    have e2 : decide (s.size ≤ 9) = true := by simp; omega
    have e3 : (decide (some s[0] = some 48) && decide (1 < s.size)) = false := by
      rw [Bool.eq_false_iff]
      intro e
      simp at e
      exact hz e
    rw [e1, e2, e3]; rfl
  have HOK := Lib.hid hok2
  have HRD := Lib.hid hrd
  have HLEN := Lib.hid hlen
  have HSZ := Lib.hid hsz
  have x1 : (1 : Int) ≤ (s.size : Int) := by omega
  have x2 : (s.size : Int) ≤ 9 := by omega
  have key : ∀ x3b : Bool, ((s[0].toNat : Int) == 48) = x3b → (x3b = true → (s.size : Int) ≤ 1) → Calls Tryd.prog 19 #[.string s] w (NmQ ok rd w) := by
    intro x3b hx3 hx4
    clear hok hrd hun hlen h1 h9 hh hz hok2 hsz
    cases x3b
    · clear hx4
      go_enter Tryd.func19, Tryd.ntmps19
      go_wp2
      go_loop [4, 5] (fun n i => ∃ k : Nat, k ≤ s.size ∧ n = .int .i64 ((nmV (s.data.toList.take k) 0 : Nat) : Int) ∧ i = .int .i64 (k : Nat) ∧ Hid ((s.data.toList.take k).all isDg = true)) (fun _ i => s.size - (intOf i).toNat)
      case atStart => exact ⟨0, Nat.zero_le _, rfl, rfl, Lib.hid rfl⟩
      case round =>
        obtain ⟨k, hk, rfl, rfl, HA⟩ := hrel
        clear hx3
        by_cases hlt : k < s.size
        · have hget : s.data.toList.take (k + 1) = s.data.toList.take k ++ [s[k]] := by rw [List.take_succ_eq_append_getElem (by rw [HLEN.out]; exact hlt)]; rfl
          have HT := Lib.hid (show nmV (s.data.toList.take (k + 1)) 0 = nmV (s.data.toList.take k) 0 * 10 + (s[k].toNat - 48) by rw [hget, nmV_snoc])
          have HA2 := Lib.hid (fun (h : isDg s[k] = true) => show (s.data.toList.take (k + 1)).all isDg = true by rw [hget, List.all_append, HA.out]; simp [h])
          have HA3 := Lib.hid (fun (h : isDg s[k] = false) => show ok = false by
            rw [HOK.out]
            have hm : s[k] ∈ s.data.toList := by
              have : s[k] ∈ s.data.toList.take (k + 1) := by rw [hget]; simp
              exact List.mem_of_mem_take this
            rw [Bool.eq_false_iff]
            intro hall
            rw [List.all_eq_true.1 hall _ hm] at h
            cases h)
          have hn : nmV (s.data.toList.take k) 0 < 1000000000 := by
            have h1 := nmV_lt (s.data.toList.take k) 0 1 HA.out (by decide)
            have h2 : (s.data.toList.take k).length ≤ 9 := by rw [List.length_take]; have := HSZ.out; omega
            have h3 : 10 ^ (s.data.toList.take k).length ≤ 10 ^ 9 := Nat.pow_le_pow_right (by decide) h2
            omega
          obtain ⟨n, hnn⟩ : ∃ n, nmV (s.data.toList.take k) 0 = n := ⟨_, rfl⟩
          rw [hnn] at hn HT ⊢
          have hb256 : s[k].toNat < 256 := s[k].toNat_lt
          have HY := Lib.hid hn
          have y4 : (0 : Int) ≤ (n : Int) := by omega
          have hx1 : (k : Int) < (s.size : Int) := by omega
          have hx2 : (0 : Int) ≤ (k : Int) := by omega
          clear hget hnn hn x1 x2
          by_cases hd : 48 ≤ s[k].toNat ∧ s[k].toNat ≤ 57
          · have y1 : (48 : Int) ≤ (s[k].toNat : Int) := by omega
            have y2 : (s[k].toNat : Int) ≤ 57 := by omega
            have HH := Lib.hid hd
            clear hd HA3
            go_wp2
            go_round
            case rel =>
              refine ⟨k + 1, hlt, ?_, by go_num, Lib.hid (HA2.out (by unfold isDg; simp [HH.out]))⟩
              rw [HT.out]
              have := HH.out
              have hy := HY.out
              have e1 : wrap64 ((n : Int) * 10) = (n : Int) * 10 := by unfold wrap64; omega
              rw [e1]
              have e2 : wrap64 ((n : Int) * 10 + ((s[k].toNat : Int) - 48)) = (n : Int) * 10 + ((s[k].toNat : Int) - 48) := by unfold wrap64; omega
              rw [e2]
              congr 1
              omega
            case measure => simp [intOf]; omega
          · have hbad := HA3.out (by
              unfold isDg
              rw [Bool.and_eq_false_iff]
              simp; omega)
            subst hbad
            clear HA3 HA2
            by_cases z1 : s[k].toNat < 48
            · have y1 : (s[k].toNat : Int) < 48 := by omega
              clear hd
              go_wp2
              go_ret2
              exact NmQ.bad _ _
            · have y1 : (57 : Int) < (s[k].toNat : Int) := by omega
              clear hd
              go_wp2
              go_ret2
              exact NmQ.bad _ _
        · obtain rfl : k = s.size := by omega
          have htk : s.data.toList.take s.size = s.data.toList := List.take_of_length_le (Nat.le_of_eq HLEN.out)
          rw [htk] at HA ⊢
          rw [HRD.out]
          obtain rfl : ok = true := by rw [HOK.out, HA.out]
          clear htk hlt HA
          go_wp2
          go_ret2
          exact ⟨⟨_, rfl, fun _ => rfl⟩, rfl⟩
    · have hx5 := hx4 rfl
      clear hx4
      go_enter Tryd.func19, Tryd.ntmps19
      go_wp2
      go_loop [4, 5] (fun n i => ∃ k : Nat, k ≤ s.size ∧ n = .int .i64 ((nmV (s.data.toList.take k) 0 : Nat) : Int) ∧ i = .int .i64 (k : Nat) ∧ Hid ((s.data.toList.take k).all isDg = true)) (fun _ i => s.size - (intOf i).toNat)
      case atStart => exact ⟨0, Nat.zero_le _, rfl, rfl, Lib.hid rfl⟩
      case round =>
        obtain ⟨k, hk, rfl, rfl, HA⟩ := hrel
        clear hx3 hx5
        by_cases hlt : k < s.size
        · have hget : s.data.toList.take (k + 1) = s.data.toList.take k ++ [s[k]] := by rw [List.take_succ_eq_append_getElem (by rw [HLEN.out]; exact hlt)]; rfl
          have HT := Lib.hid (show nmV (s.data.toList.take (k + 1)) 0 = nmV (s.data.toList.take k) 0 * 10 + (s[k].toNat - 48) by rw [hget, nmV_snoc])
          have HA2 := Lib.hid (fun (h : isDg s[k] = true) => show (s.data.toList.take (k + 1)).all isDg = true by rw [hget, List.all_append, HA.out]; simp [h])
          have HA3 := Lib.hid (fun (h : isDg s[k] = false) => show ok = false by
            rw [HOK.out]
            have hm : s[k] ∈ s.data.toList := by
              have : s[k] ∈ s.data.toList.take (k + 1) := by rw [hget]; simp
              exact List.mem_of_mem_take this
            rw [Bool.eq_false_iff]
            intro hall
            rw [List.all_eq_true.1 hall _ hm] at h
            cases h)
          have hn : nmV (s.data.toList.take k) 0 < 1000000000 := by
            have h1 := nmV_lt (s.data.toList.take k) 0 1 HA.out (by decide)
            have h2 : (s.data.toList.take k).length ≤ 9 := by rw [List.length_take]; have := HSZ.out; omega
            have h3 : 10 ^ (s.data.toList.take k).length ≤ 10 ^ 9 := Nat.pow_le_pow_right (by decide) h2
            omega
          obtain ⟨n, hnn⟩ : ∃ n, nmV (s.data.toList.take k) 0 = n := ⟨_, rfl⟩
          rw [hnn] at hn HT ⊢
          have hb256 : s[k].toNat < 256 := s[k].toNat_lt
          have HY := Lib.hid hn
          have y4 : (0 : Int) ≤ (n : Int) := by omega
          have hx1 : (k : Int) < (s.size : Int) := by omega
          have hx2 : (0 : Int) ≤ (k : Int) := by omega
          clear hget hnn hn x1 x2
          by_cases hd : 48 ≤ s[k].toNat ∧ s[k].toNat ≤ 57
          · have y1 : (48 : Int) ≤ (s[k].toNat : Int) := by omega
            have y2 : (s[k].toNat : Int) ≤ 57 := by omega
            have HH := Lib.hid hd
            clear hd HA3
            go_wp2
            go_round
            case rel =>
              refine ⟨k + 1, hlt, ?_, by go_num, Lib.hid (HA2.out (by unfold isDg; simp [HH.out]))⟩
              rw [HT.out]
              have := HH.out
              have hy := HY.out
              have e1 : wrap64 ((n : Int) * 10) = (n : Int) * 10 := by unfold wrap64; omega
              rw [e1]
              have e2 : wrap64 ((n : Int) * 10 + ((s[k].toNat : Int) - 48)) = (n : Int) * 10 + ((s[k].toNat : Int) - 48) := by unfold wrap64; omega
              rw [e2]
              congr 1
              omega
            case measure => simp [intOf]; omega
          · have hbad := HA3.out (by
              unfold isDg
              rw [Bool.and_eq_false_iff]
              simp; omega)
            subst hbad
            clear HA3 HA2
            by_cases z1 : s[k].toNat < 48
            · have y1 : (s[k].toNat : Int) < 48 := by omega
              clear hd
              go_wp2
              go_ret2
              exact NmQ.bad _ _
            · have y1 : (57 : Int) < (s[k].toNat : Int) := by omega
              clear hd
              go_wp2
              go_ret2
              exact NmQ.bad _ _
        · obtain rfl : k = s.size := by omega
          have htk : s.data.toList.take s.size = s.data.toList := List.take_of_length_le (Nat.le_of_eq HLEN.out)
          rw [htk] at HA ⊢
          rw [HRD.out]
          obtain rfl : ok = true := by rw [HOK.out, HA.out]
          clear htk hlt HA
          go_wp2
          go_ret2
          exact ⟨⟨_, rfl, fun _ => rfl⟩, rfl⟩
  by_cases h48 : s[0] = 48
  · exact key true (by rw [h48]; rfl) (fun _ => by have : ¬ 1 < s.size := fun e => hz ⟨h48, e⟩; omega)
  · refine key false ?_ (fun e => by cases e)
    have : s[0].toNat ≠ 48 := fun e => h48 (UInt8.toNat_inj.1 e)
    simp; omega
end Go.Proofs.YtdekolkngokmpaaDoor
