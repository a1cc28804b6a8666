/- Small contracts of the great laws: what is drawn, numbers and lists compared. The best pair is the best one; a wheel more makes it no worse: plain. FnFactors: the walk. -/
import Derived.Test.YtggcajillncamaaDrwA
import Derived.Test.YtggcajillncamaaSame
import Derived.Test.YtggcajillncamaaAdw
import Derived.Test.YtggcajillncamaaFb
import Derived.Test.YtggcajillncamaaWst
namespace Go.Proofs.Ytggcajillncamaa
open Go.RowKit Ieee
open Go.Proofs.YtggcajillncamaaW.PrintWords
set_option maxRecDepth 100000
attribute [local irreducible] wpRel
theorem if_wanted {c : Bool} {p q : Prop} (hc : c = true) (h : p) : if c = true then p else q := by rw [if_pos hc]; exact h
/-- A guard that reads a slot which an operation left out: no Bool. -/
@[go_sem high] theorem some_undef : (some undef : Option Value) = some (.tuple #[]) := rfl
theorem a2Long_at (A B : Option Addr) (n c m c' : Nat) (b : Bool) (hb : (decide (3000 < n) || decide (3000 < m)) = b) (hn : n ≤ 9223372036854775807) (hm : m ≤ 9223372036854775807) (w : World) :
    Calls Try.prog 4 #[.slice A n c, .slice B m c'] w fun e w' => e = .returned (.bool b) ∧ w = w' := by
  subst hb
  by_cases h1 : 3000 < n
  · have h1' : (3000 : Int) < n := by omega
    go_enter Try.func4, Try.ntmps4
    go_wp2
    go_ret
    exact ⟨by simp [h1], rfl⟩
  · have h1' : ¬ (3000 : Int) < n := by omega
    by_cases h2 : 3000 < m
    · have h2' : (3000 : Int) < m := by omega
      go_enter Try.func4, Try.ntmps4
      go_wp2
      go_ret
      exact ⟨by simp [h1, h2], rfl⟩
    · have h2' : ¬ (3000 : Int) < m := by omega
      go_enter Try.func4, Try.ntmps4
      go_wp2
      go_ret
      exact ⟨by simp [h1, h2], rfl⟩
theorem l01Same_FV {r s x : Nat} (hr : FV r x) (hs : FV s x) (w : World) : Calls Try.prog 26 #[.float .f32 r, .float .f32 s] w fun e w' => e = .returned (.bool true) ∧ w = w' := by
  have h := l01Same_any r s w
  have e : same r s = true := by unfold same; exact decide_eq_true (hr.1.trans hs.1.symm)
  rwa [e] at h
theorem sameN_self (a : Nat) (w : World) : Calls Try.prog 12 #[.float .f32 a, .float .f32 a] w fun e w' => e = .returned (.bool true) ∧ w = w' := by
  have HC := Lib.hid (l01Same_any a a)
  rw [show same a a = true by unfold same; simp] at HC
  go_enter Try.func12, Try.ntmps12
  go_wp2_with (go_at_call 26; refine (HC.out _).mono ?_; rintro e w' ⟨rfl, rfl⟩)
  go_ret
  exact ⟨rfl, rfl⟩
theorem a2Same_any (A B : Option Addr) (c c' n : Nat) (xs : List Nat) (w : World) (hA : Kd.C kf w A n xs) (hB : Kd.C kf w B n xs) (hm : n ≤ 1000) :
    Calls Try.prog 11 #[.slice A n c, .slice B n c'] w fun e w' => e = .returned (.bool true) ∧ Below w.heap.size w w' := by
  have HA := Lib.hid hA
  have HB := Lib.hid hB
  clear hA hB
  go_enter Try.func11, Try.ntmps11
  go_wp2
  go_loopw [5] (fun i wr => ∃ k : Nat, k ≤ n ∧ i = .int .i64 k ∧ Below w.heap.size w wr) (fun i _ => n - (intOf i).toNat)
  case atStart => exact ⟨0, Nat.zero_le _, rfl, Below.refl _ _⟩
  case round =>
    obtain ⟨k, hk, rfl, hb⟩ := hrel
    by_cases hlt : k < n
    · obtain ⟨b, off, r, rfl, hbl, c0, hr⟩ := at_kf HA.out k hlt
      obtain ⟨b', off', r', rfl, hbl', c1, hr'⟩ := at_kf HB.out k hlt
      have d0 := (bc hb b (off + k) hbl).trans c0
      have d1 := (bc hb b' (off' + k) hbl').trans c1
      have HR := Lib.hid (And.intro hr hr')
      clear c0 c1 hr hr'
      have x1 : (k : Int) < (n : Int) := by omega
      have x2 : (0 : Int) ≤ (k : Int) := by omega
      obtain ⟨wo, hwo⟩ : ∃ wo : World, wo = wr := ⟨_, rfl⟩
      subst hwo
      go_wp2
      first | refine region_drewN (DIs (.bool true)) (by kernel_rfl) (by kernel_rfl) ?_ | refine region_drew (DIs (.bool true)) (by kernel_rfl) (by kernel_rfl) ?_
      repeat (first | (refine wpRel_plain rfl (fun K hK => ?_); intro w' hw'; obtain ⟨n', rfl⟩ := hw'; go_simp; refine ⟨?_, fun v hv => ?_⟩; (go_at_call 26; refine (l01Same_FV HR.out.1 HR.out.2 _).mono ?_; rintro e w' ⟨rfl, rfl⟩; exact ⟨_, rfl, rfl, Drew.mk _ _⟩); obtain rfl : v = _ := hv; (refine hK _ ?_; clear hK K n')) | (refine wpRel_plain rfl (fun K hK => ?_); intro w' hw'; obtain ⟨n', rfl⟩ := hw'; go_simp; refine ⟨Drew.mk _ _, hK _ ?_⟩; clear hK K n'))
      (refine wpRel_nil ?_; intro w' hw'; obtain ⟨nq, rfl⟩ := hw')
      go_wp2
      go_roundw
      case rel => exact ⟨k + 1, hlt, by go_num, bdrewN hb _⟩
      case measure => simp [intOf]; omega
    · go_wp2
      go_ret
      exact ⟨rfl, hb⟩
theorem sameN_any (a b : Nat) (w : World) : Calls Try.prog 12 #[.float .f32 a, .float .f32 b] w fun e w' => e = .returned (.bool (same a b)) ∧ w = w' := by
  have HC := Lib.hid (l01Same_any a b)
  go_enter Try.func12, Try.ntmps12
  go_wp2_with (go_at_call 26; refine (HC.out _).mono ?_; rintro e w' ⟨rfl, rfl⟩)
  go_ret
  exact ⟨rfl, rfl⟩
theorem sameN_FV {r s x : Nat} (hr : FV r x) (hs : FV s x) (w : World) : Calls Try.prog 12 #[.float .f32 r, .float .f32 s] w fun e w' => e = .returned (.bool true) ∧ w = w' := by
  have h := sameN_any r s w
  have e : same r s = true := by unfold same; exact decide_eq_true (hr.1.trans hs.1.symm)
  rwa [e] at h
end Go.Proofs.Ytggcajillncamaa
namespace Go.Proofs.Ytggcajillncamaa
open Ieee
set_option maxRecDepth 100000
theorem fsub_mag {x y : Nat} (hx : x < infW) (hy : y < infW) : ∃ s m, fsub x y = sw s m ∧ m ≤ max x y := by
  obtain ⟨a, p, e, hp, hv⟩ := nn_read hx
  obtain ⟨b, q, e2, hq, hu⟩ := nn_read hy
  unfold fsub Format.sub
  rw [e, e2]
  obtain ⟨S, T, hS, hT⟩ : ∃ S T, (Datum.number false a p).sum (Datum.number false b q).opposite = some (.number S T (min p q)) ∧ T ≤ max (a * 2 ^ (p - min p q).toNat) (b * 2 ^ (q - min p q).toNat) := by
    refine ⟨_, _, rfl, ?_⟩
    simp only [signed, Nat.shiftLeft_eq, Bool.not_false, if_true, Bool.false_eq_true, if_false]
    generalize a * 2 ^ (p - min p q).toNat = A
    generalize b * 2 ^ (q - min p q).toNat = B
    omega
  rw [hS, getD_map_some, write_number, nearest_sw]
  refine ⟨S, _, rfl, ?_⟩
  by_cases hz : T = 0
  · rw [hz, nearest_zero]; exact Nat.zero_le _
  · rw [nearest_rungOf single false hz (min p q) single.leastPlace (by omega) (Int.le_refl _), word_false]
    have e3 : (p - single.leastPlace).toNat = (p - min p q).toNat + (min p q - single.leastPlace).toNat := by omega
    have e4 : (q - single.leastPlace).toNat = (q - min p q).toNat + (min p q - single.leastPlace).toNat := by omega
    rw [e3, Nat.pow_add, ← Nat.mul_assoc] at hv
    rw [e4, Nat.pow_add, ← Nat.mul_assoc] at hu
    have h1 : T * 2 ^ (min p q - single.leastPlace).toNat ≤ fval single (max x y) := by
      rcases Nat.le_total (a * 2 ^ (p - min p q).toNat) (b * 2 ^ (q - min p q).toNat) with h | h
      · refine Nat.le_trans (Nat.mul_le_mul_right _ (Nat.le_trans hT (by rw [Nat.max_eq_right h]; exact Nat.le_refl _))) ?_
        rw [hu]; exact fval_mono (Nat.le_max_right _ _)
      · refine Nat.le_trans (Nat.mul_le_mul_right _ (Nat.le_trans hT (by rw [Nat.max_eq_left h]; exact Nat.le_refl _))) ?_
        rw [hv]; exact fval_mono (Nat.le_max_left _ _)
    have hn0 : T * 2 ^ (min p q - single.leastPlace).toNat ≠ 0 := Nat.mul_ne_zero hz (Nat.pos_iff_ne_zero.1 (Nat.two_pow_pos _))
    have hm0 : 0 < max x y := by
      rcases Nat.eq_zero_or_pos (max x y) with h | h
      · rw [h, fval_zero] at h1; omega
      · exact h
    have h2 := rungOf_mono single (Int.le_refl single.leastPlace) hn0 h1
    rwa [rungOf_self hm0 (by omega)] at h2
/-- A factor's distance is a number. -/
theorem offV_ok {x t : Nat} (hx : x < infW) (h0 : 0 < t) (ht : t < infW) : ∃ s m, offV x t = sw s m ∧ nn m ∧ (s = true → m = 0) := by
  obtain ⟨s, m, e, hm⟩ := fsub_mag hx ht
  have hmi : m < infW := by omega
  have hmn : nn m := by unfold nn; unfold infW at hmi; omega
  unfold offV
  rw [e]
  rcases sizeV_sw s hmn with h | ⟨h, h'⟩
  · rw [h]
    exact ⟨false, _, rfl, nn_fdiv hmi h0 ht, fun h => by cases h⟩
  · rw [h', show (2147483648 : Nat) = sw true 0 from rfl, fdiv_sw true (by decide) h0 ht, fdiv_by_zero h0 ht]
    exact ⟨true, 0, rfl, Nat.zero_le _, fun _ => rfl⟩
def Ok (v : Nat) : Prop := ∃ s m, v = sw s m ∧ nn m ∧ (s = true → m = 0)
/-- The size of such a number. -/
def mg (v : Nat) : Nat := v % 2147483648
theorem mg_sw (s : Bool) {m : Nat} (h : nn m) : mg (sw s m) = m := by
  unfold nn at h
  cases s
  · show m % 2147483648 = m; omega
  · show (2147483648 + m) % 2147483648 = m; omega
theorem Ok_flt {u v : Nat} (hu : Ok u) (hv : Ok v) : flt u v = decide (mg u < mg v) := by
  obtain ⟨s, m, rfl, hm, h1⟩ := hu
  obtain ⟨t, n, rfl, hn, h2⟩ := hv
  rw [flt_sw s t hm hn, mg_sw s hm, mg_sw t hn]
  congr 1
  cases s
  · cases t
    · simp
    · obtain rfl := h2 rfl; simp
  · obtain rfl := h1 rfl
    cases t
    · simp
    · obtain rfl := h2 rfl; simp
/-- The order of two words of numbers. -/
theorem ord_sw (s t : Bool) {m n : Nat} (hm : nn m) (hn : nn n) : single.order (sw s m) (sw t n) = some (compare (if s then -(m : Int) else m) (if t then -(n : Int) else n)) := by
  rw [order_skey single single_bi (isn_sw s hm) (isn_sw t hn), skey_sw s hm, skey_sw t hn]
theorem feq_sw (s t : Bool) {m n : Nat} (hm : nn m) (hn : nn n) : feq (sw s m) (sw t n) = decide ((if s then -(m : Int) else m) = (if t then -(n : Int) else n)) := by
  unfold feq
  rw [ord_sw s t hm hn]
  generalize (if s then -(m : Int) else (m : Int)) = a
  generalize (if t then -(n : Int) else (n : Int)) = b
  rcases Int.lt_trichotomy a b with h | h | h
  · rw [Int.compare_eq_lt.2 h, decide_eq_false (by omega)]; rfl
  · rw [Int.compare_eq_eq.2 h, decide_eq_true h]; rfl
  · rw [Int.compare_eq_gt.2 h, decide_eq_false (by omega)]; rfl
theorem fle_sw (s t : Bool) {m n : Nat} (hm : nn m) (hn : nn n) : fle (sw s m) (sw t n) = decide ((if s then -(m : Int) else m) ≤ (if t then -(n : Int) else n)) := by
  have h : fle (sw s m) (sw t n) = (flt (sw s m) (sw t n) || feq (sw s m) (sw t n)) := rfl
  rw [h, flt_sw s t hm hn, feq_sw s t hm hn, Bool.eq_iff_iff]
  simp
  omega
theorem sw_of {x : Nat} (h : isn x = false) (hx : x < 4294967296) : ∃ s m, x = sw s m ∧ nn m := by
  rw [isn_eq] at h
  have h1 : ¬ 2139095040 < x % 2147483648 := of_decide_eq_false h
  by_cases h2 : x < 2147483648
  · exact ⟨false, x, rfl, by unfold nn; omega⟩
  · exact ⟨true, x - 2147483648, by show x = 2147483648 + (x - 2147483648); omega, by unfold nn; omega⟩
theorem tgt_range {rt t : Nat} (h : tgt rt = true) (hr : FV rt t) : 981467136 ≤ t ∧ t ≤ 1149239296 := by
  have h1 : isn rt = false := isn_of_fin h
  have h2 : t = rt := by rw [← hr.1, cn_of_not h1]
  subst h2
  obtain ⟨s, m, e, hm⟩ := sw_of h1 hr.2
  rw [e] at h ⊢
  unfold tgt fin at h
  rw [show (981467136 : Nat) = sw false 981467136 from rfl, show (1149239296 : Nat) = sw false 1149239296 from rfl, fle_sw _ _ (by unfold nn; omega) hm, fle_sw _ _ hm (by unfold nn; omega)] at h
  cases s
  · simp at h
    show 981467136 ≤ m ∧ m ≤ 1149239296
    omega
  · simp at h
    omega
section
variable {l : List Int} {t : Nat}
theorem bRow_law {a : Nat} (s : Nat × Nat × Nat) (hs : Ok s.2.2) : ∀ k, (∀ b, b < k → a ≠ b → Ok (oq l t a b)) →
    Ok (bRow l t a s k).2.2 ∧ mg (bRow l t a s k).2.2 ≤ mg s.2.2 ∧ (∀ b, b < k → a ≠ b → mg (bRow l t a s k).2.2 ≤ mg (oq l t a b)) ∧ (bRow l t a s k = s ∨ ∃ b, b < k ∧ a ≠ b ∧ bRow l t a s k = (a, b, oq l t a b))
  | 0, _ => ⟨hs, Nat.le_refl _, fun b hb => absurd hb (Nat.not_lt_zero b), .inl rfl⟩
  | k + 1, h => by
    obtain ⟨h1, h2, h3, h4⟩ := bRow_law s hs k (fun b hb => h b (by omega))
    unfold bRow
    by_cases e : a = k
    · rw [if_pos e]
      refine ⟨h1, h2, fun b hb hab => ?_, ?_⟩
      · exact h3 b (by omega) hab
      · rcases h4 with h4 | ⟨b, hb, hab, h4⟩
        · exact .inl h4
        · exact .inr ⟨b, by omega, hab, h4⟩
    · rw [if_neg e]
      have hk := h k (by omega) e
      rw [Ok_flt hk h1]
      by_cases c : mg (oq l t a k) < mg (bRow l t a s k).2.2
      · rw [decide_eq_true c, if_pos rfl]
        refine ⟨hk, by show mg (oq l t a k) ≤ _; omega, fun b hb hab => ?_, .inr ⟨k, by omega, e, rfl⟩⟩
        show mg (oq l t a k) ≤ _
        by_cases eb : b = k
        · rw [eb]; exact Nat.le_refl _
        · exact Nat.le_trans (by omega) (h3 b (by omega) hab)
      · rw [decide_eq_false c, if_neg Bool.false_ne_true]
        refine ⟨h1, h2, fun b hb hab => ?_, ?_⟩
        · by_cases eb : b = k
          · rw [eb]; omega
          · exact h3 b (by omega) hab
        · rcases h4 with h4 | ⟨b, hb, hab, h4⟩
          · exact .inl h4
          · exact .inr ⟨b, by omega, hab, h4⟩
theorem bTo_law (h2 : 2 ≤ l.length) (h : ∀ a b, a < l.length → b < l.length → a ≠ b → Ok (oq l t a b)) : ∀ n, n ≤ l.length →
    Ok (bTo l t n).2.2 ∧ (∀ a b, a < n → b < l.length → a ≠ b → mg (bTo l t n).2.2 ≤ mg (oq l t a b)) ∧ ∃ a b, a < l.length ∧ b < l.length ∧ a ≠ b ∧ bTo l t n = (a, b, oq l t a b)
  | 0, _ => ⟨h 0 1 (by omega) (by omega) (by omega), fun a b ha => absurd ha (Nat.not_lt_zero a), 0, 1, by omega, by omega, by omega, rfl⟩
  | n + 1, hn => by
    obtain ⟨h1, h3, a', b', ha', hb', hab', h4⟩ := bTo_law h2 h n (by omega)
    obtain ⟨g1, g2, g3, g4⟩ := bRow_law (a := n) (bTo l t n) h1 l.length (fun b hb hab => h n b (by omega) hb hab)
    rw [bTo]
    refine ⟨g1, fun a b ha hb hab => ?_, ?_⟩
    · by_cases e : a = n
      · subst e; exact g3 b hb hab
      · exact Nat.le_trans g2 (h3 a b (by omega) hb hab)
    · rcases g4 with g4 | ⟨b, hb, hab, g4⟩
      · exact ⟨a', b', ha', hb', hab', g4.trans h4⟩
      · exact ⟨n, b, by omega, hb, hab, g4⟩
theorem oq_ok (hw : allW l) (h0 : 0 < t) (ht : t < infW) {a b : Nat} (ha : a < l.length) (hb : b < l.length) : Ok (oq l t a b) := offV_ok (fq_pos hw ha hb).2 h0 ht
/-- The best pair is the best one. -/
theorem bst_law (hw : allW l) (h2 : 2 ≤ l.length) (h0 : 0 < t) (ht : t < infW) :
    Ok (bst l t).2.2 ∧ (∀ a b, a < l.length → b < l.length → a ≠ b → mg (bst l t).2.2 ≤ mg (oq l t a b)) ∧ ∃ a b, a < l.length ∧ b < l.length ∧ a ≠ b ∧ bst l t = (a, b, oq l t a b) :=
  bTo_law h2 (fun _ _ ha hb _ => oq_ok hw h0 ht ha hb) l.length (Nat.le_refl _)
/-- A wheel more. -/
theorem insL_get {i : Nat} {z : Int} (hi : i ≤ l.length) {a : Nat} (ha : a < l.length) : (insL l i z).getD (if a < i then a else a + 1) 0 = l.getD a 0 := by
  unfold insL
  rw [List.getD_eq_getElem?_getD, List.getD_eq_getElem?_getD]
  by_cases h : a < i
  · rw [if_pos h, List.getElem?_append_left (by rw [List.length_take]; omega), List.getElem?_take_of_lt h]
  · rw [if_neg h, List.getElem?_append_right (by rw [List.length_take]; omega), List.length_take, Nat.min_eq_left hi, show a + 1 - i = (a - i) + 1 by omega, List.getElem?_cons_succ, List.getElem?_drop, show i + (a - i) = a by omega]
theorem insL_W {i : Nat} {z : Int} (hi : i ≤ l.length) (hw : allW l) (h1 : 6 ≤ z) (h2 : z ≤ 200) : allW (insL l i z) := fun k hk => by
  rw [insL_len hi] at hk
  by_cases e : k = i
  · subst e
    unfold insL
    rw [List.getD_eq_getElem?_getD, List.getElem?_append_right (by rw [List.length_take]; omega), List.length_take, Nat.min_eq_left hi, Nat.sub_self]
    exact ⟨h1, h2⟩
  · by_cases h : k < i
    · have h3 := insL_get (l := l) (z := z) hi (a := k) (by omega)
      rw [if_pos h] at h3
      rw [h3]; exact hw k (by omega)
    · have h3 := insL_get (l := l) (z := z) hi (a := k - 1) (by omega)
      rw [if_neg (by omega), show k - 1 + 1 = k by omega] at h3
      rw [h3]; exact hw (k - 1) (by omega)
theorem awV_le (hw : allW l) (hl : 2 ≤ l.length) (h0 : 0 < t) (ht : t < infW) {n : Int} (h1 : 6 ≤ n) (h2 : n ≤ 200) : Ok (awV l t n) ∧ mg (awV l t n) ≤ mg (bst l t).2.2 := by
  have hi := plc_le l n
  obtain ⟨g1, g2, _⟩ := bst_law (t := t) (insL_W (z := n) hi hw h1 h2) (by rw [insL_len hi]; omega) h0 ht
  obtain ⟨_, _, a, b, ha, hb, hab, e⟩ := bst_law (t := t) hw hl h0 ht
  refine ⟨g1, ?_⟩
  have h3 := g2 (if a < plc l n then a else a + 1) (if b < plc l n then b else b + 1) (by rw [insL_len hi]; split <;> omega) (by rw [insL_len hi]; split <;> omega) (by split <;> split <;> omega)
  unfold oq fq at h3
  rw [insL_get hi ha, insL_get hi hb] at h3
  rw [e]
  exact h3
theorem aw_law (hw : allW l) (hl : 2 ≤ l.length) (h0 : 0 < t) (ht : t < infW) : ∀ {k : Nat} {s : Int × Nat}, k ≤ 195 → aw l t k = some s → Ok s.2 ∧ mg s.2 ≤ mg (bst l t).2.2 ∧ isW l s.1 = false
  | k + 1, s, hk, h => by
    have h3 := awV_le (t := t) hw hl h0 ht (n := 6 + (k : Int)) (by omega) (by omega)
    unfold aw at h
    by_cases hi : isW l (6 + k) = true
    · rw [if_pos hi] at h
      exact aw_law hw hl h0 ht (by omega) h
    · rw [if_neg hi] at h
      have hi' : isW l (6 + k) = false := by simpa using hi
      split at h
      · injection h with h; subst h; exact ⟨h3.1, h3.2, hi'⟩
      · rename_i s' h'
        have h4 := aw_law hw hl h0 ht (by omega) h'
        split at h
        · injection h with h; subst h; exact ⟨h3.1, h3.2, hi'⟩
        · injection h with h; subst h; exact h4
theorem plc_step {x : Int} (h : isW l x = true) : plc l x + 1 ≤ plc l (x + 1) := by
  obtain ⟨h1, h2⟩ : plc l x < l.length ∧ l.getD (plc l x) 0 = x := of_decide_eq_true h
  have hm : x ∈ l := by
    rw [← h2, List.getD_eq_getElem?_getD, List.getElem?_eq_getElem h1]
    exact List.getElem_mem h1
  clear h h1 h2
  unfold plc
  induction l with
  | nil => cases hm
  | cons y ys ih =>
    rw [List.countP_cons, List.countP_cons]
    rcases List.mem_cons.1 hm with rfl | hm
    · rw [if_neg (by simp), if_pos (by simp; omega)]
      have : List.countP (fun y => decide (y < x)) ys ≤ List.countP (fun y => decide (y < x + 1)) ys := List.countP_mono_left (fun a _ h => by simp at h ⊢; omega)
      omega
    · have := ih hm
      by_cases h : y < x
      · rw [if_pos (by simpa using h), if_pos (by simp; omega)]; omega
      · rw [if_neg (by simpa using h)]; omega
theorem aw_none : ∀ {k : Nat}, aw l t k = none → k ≤ plc l (6 + k)
  | 0, _ => Nat.zero_le _
  | k + 1, h => by
    unfold aw at h
    by_cases hi : isW l (6 + k) = true
    · rw [if_pos hi] at h
      have h1 := aw_none h
      have h2 := plc_step hi
      rw [show (6 : Int) + ((k + 1 : Nat) : Int) = 6 + (k : Int) + 1 by omega]
      omega
    · rw [if_neg hi] at h
      split at h
      · cases h
      · split at h <;> cases h
theorem aw_some (h6 : l.length ≤ 6) : ∃ s, aw l t 195 = some s := by
  cases h : aw l t 195 with
  | some s => exact ⟨s, rfl⟩
  | none =>
    have := aw_none h
    have h2 := plc_le l (6 + ((195 : Nat) : Int))
    omega
theorem isW_not (hb : boxOk l = true) {x : Int} (h : isW l x = false) {i : Nat} (hi : i < l.length) : l.getD i 0 ≠ x := fun e => by
  have hp : plc l x = i := plc_eq (by omega) (fun j hj => by rw [← e]; exact box_lt hb hj hi) (fun j hj hjl => by
    rcases Nat.lt_or_ge i j with h1 | h1
    · have := box_lt hb h1 hjl; omega
    · rw [show j = i by omega]; omega)
  have : isW l x = true := by unfold isW; rw [hp]; exact decide_eq_true ⟨hi, e⟩
  rw [h] at this; cases this
/-- The widest step is one of the steps, and none is wider. -/
theorem wid_is (F : List Nat) : ∀ k, (wid F k).2 = stp F (wid F k).1
  | 0 => rfl
  | k + 1 => by
    unfold wid
    split
    · rfl
    · exact wid_is F k
theorem wid_ge {F : List Nat} (h2 : allPos F) : ∀ k, k + 1 < F.length → ∀ i, 1 ≤ i → i ≤ k + 1 → stp F i ≤ (wid F k).2
  | 0, _, i, h3, h4 => by obtain rfl : i = 1 := by omega
                          exact Nat.le_refl _
  | k + 1, h, i, h3, h4 => by
    have h5 := wid_ge h2 k (by omega)
    have h6 := wid_nn h2 k (by omega)
    have h7 := stp_nn h2 (k := k + 2) (by omega) h
    unfold wid
    rw [nn_flt h6 h7]
    by_cases c : (wid F k).2 < stp F (k + 2)
    · rw [decide_eq_true c, if_pos rfl]
      show stp F i ≤ stp F (k + 2)
      by_cases e : i = k + 2
      · rw [e]; exact Nat.le_refl _
      · exact Nat.le_trans (h5 i h3 (by omega)) (by omega)
    · rw [decide_eq_false c, if_neg Bool.false_ne_true]
      by_cases e : i = k + 2
      · rw [e]; omega
      · exact h5 i h3 (by omega)
end
end Go.Proofs.Ytggcajillncamaa
namespace Go.Proofs.Ytggcajillncamaa
open Go.RowKit Ieee
open Go.Proofs.YtggcajillncamaaW.PrintWords
set_option maxRecDepth 100000
attribute [local irreducible] wpRel
/-- All factors of a valid box. -/
theorem afs_ok (A : Option Addr) (c : Nat) (l : List Int) (w : World) (hA : Kd.C ki16 w A l.length l) (hk : boxOk l = true) (hm : l.length ≤ 1000) :
    Calls Try.prog 8 #[.slice A l.length c] w fun e w' => ∃ A' c', e = .returned (.tuple #[.slice A' (allF l).length c', .int .i64 0]) ∧ Kd.C kf w' A' (allF l).length (allF l) ∧ Below w.heap.size w w' := by
  refine (allFactors_spec A c l w hA (by omega)).mono ?_
  rintro e w' ⟨⟨v, rfl, hR⟩, hb⟩
  rw [if_pos hk] at hR ⊢
  obtain ⟨A', c', rfl, _, hC⟩ := RW.reads hR
  exact ⟨A', c', rfl, hC, hb⟩
theorem afi_ok (A : Option Addr) (c : Nat) (l : List Int) (w : World) (hA : Kd.C ki16 w A l.length l) (hk : boxOk l = true) (hm : l.length ≤ 1000) :
    Calls Try.prog 7 #[.slice A l.length c] w fun e w' => ∃ A' c', e = .returned (.tuple #[.slice A' (allF l).length c', .int .i64 0]) ∧ Kd.C kf w' A' (allF l).length (allF l) ∧ Below w.heap.size w w' := by
  refine (allFactors_impl A c l w hA (by omega)).mono ?_
  rintro e w' ⟨⟨v, rfl, hR⟩, hb⟩
  rw [if_pos hk] at hR ⊢
  obtain ⟨A', c', rfl, _, hC⟩ := RW.reads hR
  exact ⟨A', c', rfl, hC, hb⟩
/-- The widest step of a valid box: its place and its size. -/
def wP (l : List Int) : Nat := (wid (allF l) ((allF l).length - 2)).1
def wF (l : List Int) : Nat := (allF l).getD (wP l - 1) 0
def wW (l : List Int) : Nat := (wid (allF l) ((allF l).length - 2)).2
theorem wsO_ok {l : List Int} (hk : boxOk l = true) : wsO l = (wF l, wW l, 0) := by unfold wsO; rw [if_pos hk]; rfl
theorem ws_law {l : List Int} (hk : boxOk l = true) : 1 ≤ wP l ∧ wP l < (allF l).length ∧ wW l = stp (allF l) (wP l) ∧ (∀ i, 1 ≤ i → i < (allF l).length → nn (stp (allF l) i) ∧ stp (allF l) i ≤ wW l) ∧ 1065353216 < wW l ∧ nn (wW l) := by
  obtain ⟨hw, h2, h24⟩ := allW_of hk
  have h3 := allF_two hk
  have h4 := wid_le (allF l) ((allF l).length - 2)
  have h5 := wid_is (allF l) ((allF l).length - 2)
  have h6 := allF_pos hw
  have h7 : 1 ≤ wP l ∧ wP l < (allF l).length := by unfold wP; omega
  have h8 := stp_gt (allF_asc hw) h6 h7.1 h7.2
  have h9 := stp_nn h6 h7.1 h7.2
  refine ⟨h7.1, h7.2, h5, fun i hi hl => ⟨stp_nn h6 hi hl, wid_ge h6 _ (by omega) i hi (by omega)⟩, ?_, ?_⟩
  · show _ < (wid (allF l) ((allF l).length - 2)).2
    rw [h5]; exact h8
  · show nn (wid (allF l) ((allF l).length - 2)).2
    rw [h5]; exact h9
theorem wsS_ok (A : Option Addr) (c : Nat) (l : List Int) (w : World) (hA : Kd.C ki16 w A l.length l) (hk : boxOk l = true) (hm : l.length ≤ 1000) :
    Calls Try.prog 10 #[.slice A l.length c] w fun e w' => e = .returned (.tuple #[.float .f32 (wF l), .float .f32 (wW l), .int .i64 0]) ∧ Below w.heap.size w w' := by
  refine (widest_spec A c l w hA (by omega)).mono ?_
  rintro e w' ⟨h, hb, _⟩
  rw [wsO_ok hk] at h
  exact ⟨h, hb⟩
theorem wsI_ok (A : Option Addr) (c : Nat) (l : List Int) (w : World) (hA : Kd.C ki16 w A l.length l) (hk : boxOk l = true) (hm : l.length ≤ 1000) :
    Calls Try.prog 9 #[.slice A l.length c] w fun e w' => e = .returned (.tuple #[.float .f32 (wF l), .float .f32 (wW l), .int .i64 0]) ∧ Below w.heap.size w w' := by
  refine (widest_impl A c l w hA (by omega)).mono ?_
  rintro e w' ⟨h, hb, _⟩
  rw [wsO_ok hk] at h
  exact ⟨h, hb⟩
/-- The factors from a half to two. -/
def fbL (l : List Int) : List Nat := (allF l).filter (fun x => fin 1056964608 1073741824 x)
theorem fb_ok (l : List Int) (hk : boxOk l = true) : fbOut l 1056964608 1073741824 = fbL l ∧ fbCode l 1056964608 1073741824 = 0 := by
  have h : fbB 1056964608 1073741824 = true := by decide
  unfold fbOut fbCode
  rw [if_pos hk, if_pos hk, if_pos h, if_pos h]
  exact ⟨rfl, rfl⟩
theorem fbS_ok (A : Option Addr) (c : Nat) (l : List Int) (w : World) (hA : Kd.C ki16 w A l.length l) (hk : boxOk l = true) (hm : l.length ≤ 1000) :
    Calls Try.prog 14 #[.slice A l.length c, .float .f32 1056964608, .float .f32 1073741824] w fun e w' => ∃ A' c', e = .returned (.tuple #[.slice A' (fbL l).length c', .int .i64 0]) ∧ Kd.C kf w' A' (fbL l).length (fbL l) ∧ Below w.heap.size w w' := by
  refine (fb_spec A c l _ _ w hA (by omega)).mono ?_
  rintro e w' ⟨⟨v, rfl, hR⟩, hb⟩
  rw [(fb_ok l hk).1] at hR
  rw [(fb_ok l hk).2]
  obtain ⟨A', c', rfl, _, hC⟩ := RW.reads hR
  exact ⟨A', c', rfl, hC, hb⟩
theorem fbI_ok (A : Option Addr) (c : Nat) (l : List Int) (w : World) (hA : Kd.C ki16 w A l.length l) (hk : boxOk l = true) (hm : l.length ≤ 1000) :
    Calls Try.prog 13 #[.slice A l.length c, .float .f32 1056964608, .float .f32 1073741824] w fun e w' => ∃ A' c', e = .returned (.tuple #[.slice A' (fbL l).length c', .int .i64 0]) ∧ Kd.C kf w' A' (fbL l).length (fbL l) ∧ Below w.heap.size w w' := by
  refine (fb_impl A c l _ _ w hA (by omega)).mono ?_
  rintro e w' ⟨⟨v, rfl, hR⟩, hb⟩
  rw [(fb_ok l hk).1] at hR
  rw [(fb_ok l hk).2]
  obtain ⟨A', c', rfl, _, hC⟩ := RW.reads hR
  exact ⟨A', c', rfl, hC, hb⟩
theorem fbL_law {l : List Int} (hk : boxOk l = true) : (fbL l).length ≤ (allF l).length ∧ asc (fbL l) ∧ allNn (fbL l) ∧ ∀ i, i < (fbL l).length → 1056964608 ≤ (fbL l).getD i 0 ∧ (fbL l).getD i 0 ≤ 1073741824 := by
  obtain ⟨hw, h2, h24⟩ := allW_of hk
  have hn : allNn (fbL l) := fun v hv => allF_nn hw v (List.mem_filter.1 hv).1
  refine ⟨List.length_filter_le _ _, (allF_asc hw).filter _, hn, fun i hi => ?_⟩
  have h1 := getD_mem hi
  have h3 := hn _ h1
  have h4 := (List.mem_filter.1 h1).2
  unfold fin at h4
  rw [nn_fle (by unfold nn; omega) h3, nn_fle h3 (by unfold nn; omega)] at h4
  simpa using h4
end Go.Proofs.Ytggcajillncamaa
