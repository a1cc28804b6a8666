/- Whole numbers of fifteen bits read from texts by the library. -/
import Derived.Test.YtdekolkngokmpaaDoorNmA
import Derived.Test.YtdekolkngokmpaaDoorShelf
import Derived.Lib.Strings
import Derived.Lib.Walk
import Derived.Lib.ConvBytes
import Derived.Lib.ParseIntBMem
import Derived.Lib.AtoiErrMem
import Derived.Laws.Strings3
import Derived.Laws.Closers25
import Derived.Laws.Closers25b
import Derived.BigCall
import Derived.BigGuard
namespace Go.Proofs.YtdekolkngokmpaaDoor
open Go.RowKit
set_option maxRecDepth 100000
/-- Digits alone, at least one, of a number of fifteen bits. -/
def p15 (l : List UInt8) : Bool := decide (1 ≤ l.length) && l.all isDg && decide (nmV l 0 ≤ 32767)
/-- What comes of reading such a text: the number and no error, or an error. -/
def P15Q (T : TypeId) (l : List UInt8) (w : World) (e : Ending) (w' : World) : Prop :=
  (∃ (u : Int) (ev : Value), e = .returned (.tuple #[.int .u64 u, ev]) ∧ (p15 l = true → u = nmV l 0 ∧ ev = .nilIface) ∧ (p15 l = false → 0 ≤ u ∧ u ≤ 32767 ∧ (ev = .iface T (.int .i64 1) ∨ ev = .iface T (.int .i64 2)))) ∧ Below w.heap.size w w'
theorem P15Q.syn {T : TypeId} {l : List UInt8} {w w' : World} (h : p15 l = false) (hb : Below w.heap.size w w') : P15Q T l w (.returned (.tuple #[.int .u64 0, .iface T (.int .i64 2)])) w' :=
  ⟨⟨0, _, rfl, (fun h' => by rw [h] at h'; cases h'), (fun _ => ⟨by decide, by decide, .inr rfl⟩)⟩, hb⟩
theorem P15Q.ran {T : TypeId} {l : List UInt8} {w w' : World} (h : p15 l = false) (hb : Below w.heap.size w w') : P15Q T l w (.returned (.tuple #[.int .u64 32767, .iface T (.int .i64 1)])) w' :=
  ⟨⟨32767, _, rfl, (fun h' => by rw [h] at h'; cases h'), (fun _ => ⟨by decide, by decide, .inl rfl⟩)⟩, hb⟩
theorem P15Q.yes {T : TypeId} {l : List UInt8} {w w' : World} {n : Nat} (h : p15 l = true) (hn : n = nmV l 0) (hb : Below w.heap.size w w') : P15Q T l w (.returned (.tuple #[.int .u64 (n : Int), .nilIface])) w' :=
  ⟨⟨n, _, rfl, (fun _ => ⟨by rw [hn], rfl⟩), (fun h' => by rw [h] at h'; cases h')⟩, hb⟩
theorem isDg_iff {b : UInt8} : isDg b = true ↔ 48 ≤ b.toNat ∧ b.toNat ≤ 57 := by unfold isDg; simp
theorem p15_bad {l : List UInt8} {k : Nat} (hk : k < l.length) (h : isDg l[k] = false) : p15 l = false := by
  have : l.all isDg = false := by
    rw [Bool.eq_false_iff]
    intro ha
    rw [List.all_eq_true.1 ha _ (List.getElem_mem hk)] at h
    cases h
  unfold p15
  rw [this]; simp
theorem nmV_append : ∀ (a b : List UInt8) (n : Nat), nmV (a ++ b) n = nmV b (nmV a n)
  | [], _, _ => rfl
  | c :: a, b, n => by rw [List.cons_append, nmV, nmV]; exact nmV_append a b _
theorem p15_over {l : List UInt8} {k : Nat} (h : 32767 < nmV (l.take k) 0) : p15 l = false := by
  have h1 : nmV l 0 = nmV (l.drop k) (nmV (l.take k) 0) := by rw [← nmV_append, List.take_append_drop]
  have h2 := nmV_ge (l.drop k) (nmV (l.take k) 0)
  unfold p15
  rw [decide_eq_false (show ¬ nmV l 0 ≤ 32767 by omega)]; simp
set_option maxHeartbeats 16000000 in
theorem pu15_any (t : ByteArray) (hmax : t.size ≤ 9223372036854775806) (w : World) :
    Calls Tryd.prog 39 #[.string t, .int .i64 10, .int .i64 15] w (P15Q 75 t.data.toList w) := by
  by_cases hne : t.size = 0
  · have ht : t = ⟨#[]⟩ := by
      apply ByteArray.ext
      exact Array.eq_empty_of_size_eq_zero hne
    subst ht
    go_enter Tryd.func39, Tryd.ntmps39
    go_wp2
    go_ret2
    exact P15Q.syn rfl (Below.refl _ _)
  · have hemp : t.toList.isEmpty = false := by
      rw [← decide_eq_emptyBytes]
      exact decide_eq_false (fun h => hne (by rw [h]; rfl))
    have hcv := Lib.run_convert_string_bytes (P := Tryd.prog) w 9 45 5 t (u := .string) Tryd.underlying9 Tryd.underlying45 Tryd.underlying5
    have hB : ∀ j, j < t.size → (Lib.bytesWorld w 5 t).cell? ⟨w.heap.size, j, none⟩ = some (.int .u8 (t.data.toList.getD j 0).toNat) := fun j hj => Lib.bytesWorld_cell w 5 t j hj
    have hbel := Lib.bytesWorld_below w 5 t
    obtain ⟨W1, hW1⟩ : ∃ W1, W1 = Lib.bytesWorld w 5 t := ⟨_, rfl⟩
    rw [← hW1] at hcv hB hbel
    clear hW1
    obtain ⟨bs, hL⟩ : ∃ bs, bs = t.data.toList := ⟨_, rfl⟩
    have hLn : bs.length = t.size := by rw [hL, Lib.size_eq]
    rw [← hL] at hB ⊢
    have HB := Lib.hid hB
    have HLn := Lib.hid hLn
    clear hL hB hLn
    -- 1 << 15 - 1
    have hmv : IntKind.u64.wrap (IntKind.u64.wrap 32768 - 1) = 32767 := by
      rw [IntKind.wrap_u64, IntKind.wrap_u64]
      decide
    go_enter Tryd.func39, Tryd.ntmps39
    go_wp2
    go_loop [12, 13, 101] (fun vu vn vi => ∃ (k n : Nat), vu = .bool false ∧ vn = .int .u64 (n : Int) ∧ vi = .int .i64 (k : Int) ∧ k ≤ t.size ∧ n ≤ 32767 ∧ Hid (n = nmV (bs.take k) 0) ∧ Hid ((bs.take k).all isDg = true)) (fun _ _ vi => t.size - (intOf vi).toNat)
    case atStart => exact ⟨0, 0, rfl, rfl, rfl, by omega, by omega, Lib.hid rfl, Lib.hid rfl⟩
    case round =>
      obtain ⟨k, n, rfl, rfl, rfl, hk, hn, HN, HD⟩ := hrel
      by_cases hkn : k < t.size
      · have hc := HB.out k hkn
        have hkb : k < bs.length := by rw [HLn.out]; exact hkn
        have hget : bs.getD k 0 = bs[k] := by simp [List.getD, List.getElem?_eq_getElem hkb]
        rw [hget] at hc
        have HT := Lib.hid (show nmV (bs.take (k + 1)) 0 = n * 10 + (bs[k].toNat - 48) by rw [List.take_succ_eq_append_getElem hkb, nmV_snoc, HN.out])
        have HA := Lib.hid (fun (h : isDg bs[k] = true) => show (bs.take (k + 1)).all isDg = true by rw [List.take_succ_eq_append_getElem hkb, List.all_append, HD.out]; simp [h])
        have HF := Lib.hid (fun (h : isDg bs[k] = false) => p15_bad hkb h)
        obtain ⟨c, hcc⟩ : ∃ c, bs[k] = c := ⟨_, rfl⟩
        rw [hcc] at hc HT HA HF
        have hc256 : c.toNat < 256 := c.toNat_lt
        clear hcc hget hkb HN HD
        by_cases hdig : 48 ≤ c.toNat ∧ c.toNat ≤ 57
        · have HA2 := Lib.hid (HA.out (isDg_iff.2 hdig))
          obtain ⟨hd0, hd1⟩ := hdig
          obtain ⟨a, ha⟩ : ∃ a : Int, (n : Int) = a := ⟨_, rfl⟩
          rw [ha]
          have a0 : 0 ≤ a := by omega
          have a1 : a ≤ 32767 := by omega
          by_cases hov : 32767 < n * 10 + (c.toNat - 48)
          · have HO := Lib.hid (p15_over (l := bs) (k := k + 1) (by rw [HT.out]; exact hov))
            have iov : 32767 < a * 10 + ((c.toNat : Int) - 48) := by omega
            clear ha hov hn
            go_wp2
            go_ret2
            exact P15Q.ran HO.out hbel
          · have iov : a * 10 + ((c.toNat : Int) - 48) ≤ 32767 := by omega
            have HM := Lib.hid (show a * 10 + ((c.toNat : Int) - 48) = ((n * 10 + (c.toNat - 48) : Nat) : Int) ∧ n * 10 + (c.toNat - 48) ≤ 32767 by omega)
            clear ha hov hn
            go_wp2
            refine ⟨⟨k + 1, n * 10 + (c.toNat - 48), rfl, (by first | (rw [← HM.out.1]; done) | (congr 1; have := HM.out.1; omega)), (by first | rfl | (congr 1; omega)), by omega, HM.out.2, Lib.hid HT.out.symm, HA2⟩, by simp [intOf]; omega⟩
        · have HF2 := Lib.hid (HF.out (by cases h : isDg c; rfl; exact absurd (isDg_iff.1 h) hdig))
          clear hn
          have hv0 := bits_lo_u8 .or (c.toNat : Int) 32
          have hv1 := bits_hi_u8 .or (c.toNat : Int) 32
          have hu0 := bits_lo_u8 .or 95 32
          have hu1 := bits_hi_u8 .or 95 32
          go_wp2_with (go_at_call 51; refine (Tryd.internal_strconv_lower _ _).mono ?_; rintro e w' ⟨rfl, rfl⟩)
          all_goals go_ret2
          all_goals exact P15Q.syn HF2.out hbel
      · obtain rfl : k = t.size := by omega
        have hp : p15 bs = true := by
          have e : bs.take t.size = bs := List.take_of_length_le (Nat.le_of_eq HLn.out)
          have h1 := HN.out
          have h2 := HD.out
          rw [e] at h1 h2
          unfold p15
          rw [h2, ← h1, HLn.out, decide_eq_true (show 1 ≤ t.size by omega), decide_eq_true hn]; rfl
        have HP := Lib.hid hp
        have HN2 := Lib.hid (show n = nmV bs 0 by
          have e : bs.take t.size = bs := List.take_of_length_le (Nat.le_of_eq HLn.out)
          have h1 := HN.out
          rwa [e] at h1)
        clear hp HN HD
        go_wp2
        go_ret2
        exact P15Q.yes HP.out HN2.out hbel
end Go.Proofs.YtdekolkngokmpaaDoor
