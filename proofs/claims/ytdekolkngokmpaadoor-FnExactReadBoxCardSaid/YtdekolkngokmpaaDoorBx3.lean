/- Boxes of wheels: their texts, both sides. -/
import Derived.Test.YtdekolkngokmpaaDoorBx2
import Derived.Test.YtdekolkngokmpaaDoorDcA
import Derived.Test.YtdekolkngokmpaaDoorKs
import Derived.Lib.Join
namespace Go.Proofs.YtdekolkngokmpaaDoor
open Go.RowKit Ieee
open Go.Proofs.YtdekolkngokmpaaDoorW.PrintWords
set_option maxRecDepth 100000
attribute [local irreducible] wpRel
def dcT (n : Int) : List UInt8 := Go.Lib.decDigits n.toNat
/-- The text of a box. -/
def boxT (l : List Int) : List UInt8 := Go.Lib.join (l.map dcT) [32]
theorem join_snoc (xs : List (List UInt8)) (y : List UInt8) (h : xs ≠ []) : Go.Lib.join (xs ++ [y]) [32] = Go.Lib.join xs [32] ++ (32 :: y) := by
  induction xs with
  | nil => exact absurd rfl h
  | cons x xs ih =>
    cases xs with
    | nil => simp [Go.Lib.join, List.intercalate, List.intersperse]
    | cons z zs =>
      have := ih (by simp)
      simp [Go.Lib.join, List.intercalate, List.intersperse] at this ⊢
      rw [this]
theorem boxT_snoc (l : List Int) (k : Nat) (h0 : 0 < k) (hk : k < l.length) : boxT (l.take (k + 1)) = boxT (l.take k) ++ (32 :: dcT (l.getD k 0)) := by
  unfold boxT
  rw [List.take_succ_eq_append_getElem hk, List.map_append, List.map_singleton, join_snoc _ _ (by cases l <;> simp_all <;> omega), List.getD_eq_getElem?_getD, List.getElem?_eq_getElem hk]
  rfl
theorem boxT_one (l : List Int) (hk : 0 < l.length) : boxT (l.take 1) = dcT (l.getD 0 0) := by
  cases l with
  | nil => cases hk
  | cons a l => simp [boxT, Go.Lib.join, List.intercalate, List.intersperse]
/-- Wheels. -/
def allT (l : List Int) : Prop := ∀ k, k < l.length → 0 ≤ l.getD k 0 ∧ l.getD k 0 < 1000
theorem allT_of {l : List Int} (h : boxOk l = true) : allT l ∧ 2 ≤ l.length ∧ l.length ≤ 24 := by
  unfold boxOk at h
  rw [Bool.and_eq_true] at h
  obtain ⟨h1, h2⟩ := h
  have h2' : 2 ≤ l.length ∧ l.length ≤ 24 := by unfold iin at h2; simp at h2; omega
  refine ⟨fun k hk => ?_, h2'⟩
  have h3 : bxTo l (k + 1) = true := by
    cases h4 : bxTo l (k + 1)
    · rw [bxTo_mono l (show k + 1 ≤ l.length from hk) h4] at h1; cases h1
    · rfl
  rw [bxTo] at h3
  simp only [Bool.and_eq_true] at h3
  have h5 := h3.2.1
  unfold iin at h5
  simp only [Bool.and_eq_true, decide_eq_true_eq] at h5
  omega
theorem dcT_len {n : Int} (h : n < 1000) : (dcT n).length ≤ 3 := dc_len (by omega)
theorem boxT_len (l : List Int) (ha : allT l) : ∀ k, k ≤ l.length → (boxT (l.take k)).length ≤ 4 * k
  | 0, _ => by simp [boxT, Go.Lib.join, List.intercalate]
  | 1, h => by
    rw [boxT_one l h]
    have := dcT_len (ha 0 h).2
    omega
  | k + 2, h => by
    rw [boxT_snoc l (k + 1) (by omega) h]
    have h1 := boxT_len l ha (k + 1) (by omega)
    have h2 := dcT_len (ha (k + 1) h).2
    simp only [List.length_append, List.length_cons]
    omega
theorem str_append (a b : List UInt8) : (⟨a.toArray⟩ : ByteArray) ++ ⟨b.toArray⟩ = ⟨(a ++ b).toArray⟩ := by
  apply ByteArray.ext
  simp
theorem str_size (a : List UInt8) : (⟨a.toArray⟩ : ByteArray).size = a.length := by show a.toArray.size = _; simp
theorem dcS_any (x : Int) (h0 : 0 ≤ x) (h1 : x < 1000) (w : World) : Calls Tryd.prog 24 #[.int .i64 x] w fun e w' => e = .returned (.string ⟨(dcT x).toArray⟩) ∧ Below w.heap.size w w' := by
  have := decimalS_any x.toNat (by omega) w
  rw [show ((x.toNat : Nat) : Int) = x by omega] at this
  exact this
theorem dcI_any (x : Int) (h0 : 0 ≤ x) (h1 : x < 1000) (w : World) (ht : Lib.TabIs Tryd.prog w "internal/strconv.uint64pow10" .u64 Lib.pow10Tab) : Calls Tryd.prog 16 #[.int .i64 x] w fun e w' => e = .returned (.string ⟨(dcT x).toArray⟩) ∧ Below w.heap.size w w' := by
  have := decimalI_any x.toNat (by omega) w ht
  rw [show ((x.toNat : Nat) : Int) = x by omega] at this
  exact this
theorem tab_below {w w' : World} (h : Lib.TabIs Tryd.prog w "internal/strconv.uint64pow10" .u64 Lib.pow10Tab) (hb : Below w.heap.size w w') : Lib.TabIs Tryd.prog w' "internal/strconv.uint64pow10" .u64 Lib.pow10Tab :=
  Joins.tab_stays (g := 0) (by kernel_rfl) h hb (Nat.le_refl _)
set_option maxHeartbeats 2000000 in
theorem l05Text_any (A : Option Addr) (c : Nat) (l : List Int) (w : World) (hA : Kd.C ki16 w A l.length l) (h1 : 1 ≤ l.length) (hm : l.length ≤ 24) (ha : allT l) :
    Calls Tryd.prog 14 #[.slice A l.length c] w fun e w' => e = .returned (.string ⟨(boxT l).toArray⟩) ∧ Below w.heap.size w w' := by
  have HA : Hid (Kd.C ki16 w A l.length l) := Lib.hid hA
  have HT := Lib.hid ha
  obtain ⟨b, off, rfl, hbl, c0, g1, g2⟩ := at_ki hA 0 (by omega)
  simp only [Nat.add_zero] at c0
  have HD := Lib.hid (dcS_any (l.getD 0 0) (ha 0 (by omega)).1 (ha 0 (by omega)).2)
  have HO := Lib.hid (boxT_one l (by omega))
  clear hA ha
  obtain ⟨x, hx⟩ : ∃ x, l.getD 0 0 = x := ⟨_, rfl⟩
  rw [hx] at c0 g1 g2 HD HO
  clear hx
  have hl0 : (0 : Int) < (l.length : Int) := by omega
  go_enter Tryd.func14, Tryd.ntmps14
  go_wp2_with (go_at_call 24; refine (HD.out _).mono ?_; rintro e w1 ⟨rfl, hb1⟩)
  clear c0 g1 g2 HD
  go_loopw [3, 4] (fun s i wr => ∃ (k : Nat) (t : List UInt8), 1 ≤ k ∧ k ≤ l.length ∧ s = .string ⟨t.toArray⟩ ∧ i = .int .i64 k ∧ Hid (t = boxT (l.take k)) ∧ Below w.heap.size w wr) (fun _ i _ => l.length - (intOf i).toNat)
  case atStart => exact ⟨1, _, Nat.le_refl _, h1, rfl, rfl, Lib.hid HO.out.symm, hb1⟩
  case round =>
    obtain ⟨k, t, hk1, hk, rfl, rfl, HK, hb⟩ := hrel
    clear HO
    by_cases hlt : k < l.length
    · obtain ⟨b', off', e', _, c0, g1, g2⟩ := at_ki HA.out k hlt
      cases e'
      have d0 := (bc hb b (off + k) hbl).trans c0
      have l0 : b < wr.heap.size := Nat.lt_of_lt_of_le hbl hb.size
      have HD := Lib.hid (dcS_any (l.getD k 0) (HT.out k hlt).1 (HT.out k hlt).2)
      have HS := Lib.hid (show boxT (l.take (k + 1)) = t ++ (32 :: dcT (l.getD k 0)) by rw [boxT_snoc l k hk1 hlt, HK.out])
      have ht := boxT_len l HT.out k hk
      rw [← HK.out] at ht
      have hd3 := dcT_len (HT.out k hlt).2
      have L0 : (⟨t.toArray⟩ : ByteArray).size ≤ 96 := by rw [str_size]; omega
      have L2 : ((⟨#[32]⟩ : ByteArray) ++ ⟨(dcT (l.getD k 0)).toArray⟩).size ≤ 4 := by rw [show (⟨#[32]⟩ : ByteArray) = ⟨[32].toArray⟩ from rfl, str_append, str_size]; simp only [List.length_append, List.length_cons, List.length_nil]; omega
      have L1 : (⟨(dcT (l.getD k 0)).toArray⟩ : ByteArray).size ≤ 3 := by rw [str_size]; omega
      have L3 : (⟨#[32]⟩ : ByteArray).size = 1 := rfl
      clear c0 ht hd3 HK
      obtain ⟨x, hx⟩ : ∃ x, l.getD k 0 = x := ⟨_, rfl⟩
      rw [hx] at d0 g1 g2 HD HS L1 L2
      clear hx
      obtain ⟨d, hd⟩ : ∃ d, dcT x = d := ⟨_, rfl⟩
      rw [hd] at HD HS L1 L2
      clear hd
      obtain ⟨wo, hwo⟩ : ∃ wo : World, wo = wr := ⟨_, rfl⟩
      subst hwo
      go_wp2_with (go_at_call 24; refine (HD.out _).mono ?_; rintro e w2 ⟨rfl, hb2⟩)
      go_roundw
      case rel => exact ⟨k + 1, t ++ (32 :: d), by omega, hlt, by rw [show (⟨#[32]⟩ : ByteArray) = ⟨[32].toArray⟩ from rfl, str_append, str_append]; rfl, by go_num, Lib.hid HS.out.symm, bstep hb hb2⟩
      case measure => simp [intOf]; omega
    · obtain rfl : k = l.length := by omega
      rw [List.take_length] at HK
      go_wp2
      go_ret
      have e := HK.out
      subst e
      exact ⟨rfl, hb⟩
end Go.Proofs.YtdekolkngokmpaaDoor
