/- Boxes read from their texts: the plain side. -/
import Derived.Test.YtdekolkngokmpaaDoorCntA
import Derived.Test.YtdekolkngokmpaaDoorBx4
import Derived.Test.YtdekolkngokmpaaDoorSpB
import Derived.Lib.SlicesS
namespace Go.Proofs.YtdekolkngokmpaaDoor
set_option maxRecDepth 100000
open Go.Lib (decDigits)
theorem dg_byte {b : UInt8} (h : isDg b = true) : UInt8.ofNat (48 + (b.toNat - 48)) = b := by
  have := isDg_iff.1 h
  rw [show 48 + (b.toNat - 48) = b.toNat by omega]
  simp
theorem nmV_pos : ∀ (l : List UInt8), l ≠ [] → l.all isDg = true → l.head? ≠ some 48 → 1 ≤ nmV l 0
  | [], h, _, _ => absurd rfl h
  | b :: l, _, ha, hh => by
    rw [List.all_cons, Bool.and_eq_true] at ha
    have h1 := isDg_iff.1 ha.1
    have h2 : b.toNat ≠ 48 := fun e => hh (by rw [List.head?_cons, show b = 48 from UInt8.toNat_inj.1 e])
    rw [nmV]
    have := nmV_ge l (0 * 10 + (b.toNat - 48))
    omega
/-- Digits with no nought ahead are the digits of their number. -/
theorem dec_nmV : ∀ (n : Nat) (l : List UInt8), l.length = n → l ≠ [] → l.all isDg = true → (l.head? = some 48 → l.length = 1) → decDigits (nmV l 0) = l
  | 0, l, hl, hne, _, _ => absurd (List.length_eq_zero_iff.1 hl) hne
  | n + 1, l, hl, hne, ha, hh => by
    rcases List.eq_nil_or_concat l with h | ⟨u, b, h⟩
    · exact absurd h hne
    · rw [List.concat_eq_append] at h
      subst h
      rw [List.all_append, Bool.and_eq_true] at ha
      have hb : isDg b = true := by simpa using ha.2
      have hbn := isDg_iff.1 hb
      rw [nmV_snoc]
      by_cases hu : u = []
      · subst hu
        show decDigits (0 * 10 + (b.toNat - 48)) = [b]
        rw [show 0 * 10 + (b.toNat - 48) = b.toNat - 48 by omega, Go.Lib.decDigits_one (by omega), dg_byte hb]
      · have hul : 1 ≤ u.length := by rcases u with _ | ⟨a, u⟩; exact absurd rfl hu; simp
        have hhead : u.head? ≠ some 48 := fun e => by
          have h1 : (u ++ [b]).head? = some 48 := by rw [List.head?_append, e]; rfl
          have := hh h1
          simp at this
          exact hu this
        have hpos := nmV_pos u hu ha.1 hhead
        have ih := dec_nmV n u (by simpa using hl) hu ha.1 (fun e => absurd e hhead)
        rw [decDigits, dif_neg (by omega)]
        have e1 : (nmV u 0 * 10 + (b.toNat - 48)) / 10 = nmV u 0 := by omega
        have e2 : (nmV u 0 * 10 + (b.toNat - 48)) % 10 = b.toNat - 48 := by omega
        rw [e1, e2, ih, dg_byte hb]
theorem dec_head (n : Nat) : (decDigits n).head? = some 48 → n < 10 := by
  induction n using Nat.strongRecOn with
  | _ n ih =>
    intro h
    by_cases h1 : n < 10
    · exact h1
    · exfalso
      rw [decDigits, dif_neg h1] at h
      have hne : decDigits (n / 10) ≠ [] := by
        by_cases h2 : n / 10 < 10
        · rw [Go.Lib.decDigits_one h2]; simp
        · rw [decDigits, dif_neg h2]; simp
      have h3 : (decDigits (n / 10)).head? = some 48 := by
        rcases hd : decDigits (n / 10) with _ | ⟨a, t⟩
        · exact absurd hd hne
        · rw [hd] at h; simpa using h
      have h4 := ih (n / 10) (by omega) h3
      rw [Go.Lib.decDigits_one h4] at h3
      simp only [List.head?_cons, Option.some.injEq] at h3
      have h5 : ∀ k : Nat, k < 10 → UInt8.ofNat (48 + k) = 48 → k = 0 := by decide
      have := h5 (n / 10) h4 h3
      omega
theorem dec_len9 {n : Nat} (h : n ≤ 32767) : (decDigits n).length ≤ 9 := by
  have key : ∀ k n : Nat, n < 10 ^ k → (decDigits n).length ≤ k ∨ k = 0 := by
    intro k
    induction k with
    | zero => intro n _; exact .inr rfl
    | succ k ih =>
      intro n hn
      left
      by_cases h1 : n < 10
      · rw [Go.Lib.decDigits_one h1]; simp
      · have hp : n / 10 < 10 ^ k := by rw [Nat.pow_succ] at hn; omega
        have hk : k ≠ 0 := by rintro rfl; simp at hp; omega
        rw [decDigits, dif_neg h1, List.length_append]
        have := (ih (n / 10) hp).resolve_right hk
        simpa using this
  exact (key 9 n (by omega)).resolve_right (by decide)
/-- The reference's test of a word. -/
def wOk (l : List UInt8) : Bool := nmOk l && decide (nmV l 0 ≤ 200)
def wV (l : List UInt8) : Int := (nmV l 0 : Nat)
theorem wOk_cnt {l : List UInt8} (h : wOk l = true) : cntOk l = true := by
  unfold wOk nmOk at h
  simp only [Bool.and_eq_true, Bool.not_eq_true', decide_eq_true_eq, Bool.and_eq_false_iff, decide_eq_false_iff_not] at h
  obtain ⟨⟨⟨⟨h1, h2⟩, h3⟩, h4⟩, h5⟩ := h
  have hne : l ≠ [] := by rintro rfl; simp at h1
  have := dec_nmV l.length l rfl hne h4 (fun e => by rcases h3 with h3 | h3; exact absurd e h3; omega)
  unfold cntOk p15
  rw [h4, this, decide_eq_true h1, decide_eq_true (show nmV l 0 ≤ 32767 by omega)]
  simp
theorem cnt_nm {l : List UInt8} (h : cntOk l = true) : nmOk l = true ∧ l ≠ [] := by
  unfold cntOk p15 at h
  simp only [Bool.and_eq_true, decide_eq_true_eq] at h
  obtain ⟨⟨⟨h1, h2⟩, h3⟩, h4⟩ := h
  have hl := dec_len9 h3
  rw [h4] at hl
  have hh : l.head? = some 48 → l.length = 1 := fun e => by
    have h5 := dec_head (nmV l 0) (by rw [h4]; exact e)
    rw [← h4, Go.Lib.decDigits_one h5]; rfl
  refine ⟨?_, by rintro rfl; simp at h1⟩
  unfold nmOk
  rw [h2, decide_eq_true h1, decide_eq_true hl]
  simp only [Bool.true_and, Bool.and_true, Bool.not_eq_true', Bool.and_eq_false_iff, decide_eq_false_iff_not]
  by_cases e : l.head? = some 48
  · right; have := hh e; omega
  · exact .inl e
theorem cnt_dec {l : List UInt8} (h : cntOk l = true) : dcT (wV l) = l := by
  unfold cntOk at h
  simp only [Bool.and_eq_true, decide_eq_true_eq] at h
  unfold dcT wV
  rw [Int.toNat_natCast]
  exact h.2
/-- What is read: the reference's answer. -/
def rbOk (l : List UInt8) : Bool := (splC 32 l).all wOk && boxOk ((splC 32 l).map wV)
def rbV (l : List UInt8) : List Int := if rbOk l then (splC 32 l).map wV else []
def rbC (l : List UInt8) : Int := if rbOk l then 0 else 5
theorem rbOk_cnt (l : List UInt8) : rbOk l = ((splC 32 l).all cntOk && boxOk ((splC 32 l).map wV)) := by
  unfold rbOk
  cases hb : boxOk ((splC 32 l).map wV)
  · simp
  · rw [Bool.and_true, Bool.and_true, Bool.eq_iff_iff, List.all_eq_true, List.all_eq_true]
    constructor
    · exact fun h x hx => wOk_cnt (h x hx)
    · intro h x hx
      unfold wOk
      rw [(cnt_nm (h x hx)).1, Bool.true_and, decide_eq_true_eq]
      obtain ⟨k, hk, e⟩ := List.getElem_of_mem hx
      have hk2 : k < ((splC 32 l).map wV).length := by simpa using hk
      have h3 : bxTo ((splC 32 l).map wV) (k + 1) = true := by
        cases h4 : bxTo ((splC 32 l).map wV) (k + 1)
        · unfold boxOk at hb
          rw [bxTo_mono _ (show k + 1 ≤ ((splC 32 l).map wV).length from hk2) h4] at hb
          cases hb
        · rfl
      rw [bxTo] at h3
      simp only [Bool.and_eq_true] at h3
      have h5 := h3.2.1
      rw [List.getD_eq_getElem?_getD, List.getElem?_eq_getElem hk2] at h5
      simp only [Option.getD_some, List.getElem_map, e] at h5
      unfold iin wV at h5
      simp only [Bool.and_eq_true, decide_eq_true_eq] at h5
      omega
/-- A box that has been read has the text just where it is valid. -/
theorem bx_text (s : ByteArray) (h : (splC 32 s.data.toList).all cntOk = true) :
    ((⟨(bxV ((splC 32 s.data.toList).map wV)).toArray⟩ : ByteArray).toList == s.toList) = boxOk ((splC 32 s.data.toList).map wV) := by
  have hne : s.data.toList ≠ [] := by
    intro e
    rw [e] at h
    have : (splC 32 ([] : List UInt8)).all cntOk = false := by
      show ([[]] : List (List UInt8)).all cntOk = false
      decide
    rw [this] at h; cases h
  rw [Bool.eq_iff_iff, Go.Lib.bytes_beq_iff]
  unfold bxV
  have hj : boxT ((splC 32 s.data.toList).map wV) = s.data.toList := by
    unfold boxT
    rw [List.map_map]
    have : (splC 32 s.data.toList).map (dcT ∘ wV) = splC 32 s.data.toList := by
      conv => rhs; rw [← List.map_id (splC 32 s.data.toList)]
      apply List.map_congr_left
      intro x hx
      exact cnt_dec (List.all_eq_true.1 h x hx)
    rw [this]
    exact join_splC 32 s.data.toList
  cases hb : boxOk ((splC 32 s.data.toList).map wV)
  · simp only [Bool.false_eq_true, if_false, iff_false]
    intro e
    exact hne (by rw [← e])
  · simp only [if_true, iff_true]
    apply ByteArray.ext
    rw [hj]
end Go.Proofs.YtdekolkngokmpaaDoor
