/- The plain law of lines: at rest; crossings; a lone speed lies between. -/
import Derived.Test.YthdmfmhhnacgfaaLone2
import Derived.Test.YthdmfmhhnacgfaaHalf
import Derived.Test.YthdmfmhhnacgfaaDrwA
namespace Go.Proofs.Ythdmfmhhnacgfaa
open Go.RowKit Ieee
set_option maxRecDepth 100000

/-- A disc within its bounds. -/
def discD (x : Nat × Nat) : Prop := (1015021568 ≤ x.1 ∧ x.1 ≤ 1149239296) ∧ 1015021568 ≤ x.2 ∧ x.2 ≤ 1233125376
def drawnL (l : List (Nat × Nat)) : Prop := ∀ i, i < l.length → discD (l.getD i (0, 0))
theorem drawnL_nil : drawnL [] := fun i h => absurd h (Nat.not_lt_zero i)
theorem drawnL_snoc {l : List (Nat × Nat)} (h : drawnL l) {p : Nat × Nat} (hp : discD p) : drawnL (l ++ [p]) := by
  intro i hi
  rw [List.getD_eq_getElem?_getD]
  by_cases hlt : i < l.length
  · rw [List.getElem?_append_left hlt, ← List.getD_eq_getElem?_getD]; exact h i hlt
  · have : i = l.length := by simp at hi; omega
    subst this
    simpa using hp
theorem nn_fin {a b x : Nat} (ha : nn a) (hb : nn b) (h1 : a ≤ x) (h2 : x ≤ b) : fin a b x = true := by
  have hx : nn x := Nat.le_trans h2 hb
  unfold fin
  rw [nn_fle ha hx, nn_fle hx hb]
  simp [h1, h2]
theorem drawnL_ok {l : List (Nat × Nat)} (h : drawnL l) (h1 : 2 ≤ l.length) (h2 : l.length ≤ 10) : lineOk l = true := by
  unfold lineOk
  rw [Bool.and_eq_true, List.all_eq_true]
  constructor
  · intro p hp
    obtain ⟨i, hi, rfl⟩ := List.getElem_of_mem hp
    have hd := h i hi
    rw [List.getD_eq_getElem?_getD, List.getElem?_eq_getElem hi] at hd
    obtain ⟨⟨a1, a2⟩, a3, a4⟩ := hd
    unfold discOk discB
    rw [Bool.and_eq_true]
    exact ⟨nn_fin (by unfold nn; omega) (by unfold nn; omega) a1 a2, nn_fin (by unfold nn; omega) (by unfold nn; omega) a3 a4⟩
  · unfold iin; simp; omega
theorem amount_nn {x : Nat} (h : x ≤ 1233125376) : amountL x = true := nn_fin (by unfold nn; omega) (by unfold nn; omega) (Nat.zero_le _) h
theorem fdiv_zero {s : Nat} (h0 : 0 < s) (hs : s < infW) : fdiv 0 s = 0 := by
  obtain ⟨n, q, e2, hq, hu⟩ := nn_read hs
  have hn : n ≠ 0 := by
    rintro rfl
    have := fval_pos h0
    rw [← hu, Nat.zero_mul] at this
    exact absurd this (Nat.lt_irrefl _)
  have e1 : single.read 0 = .number false 0 single.leastPlace := by decide
  unfold fdiv Format.div
  rw [e1, e2, quot_pos _ _ _ _ _ hn, getD_map_some, write_number]
  have hs : ∀ k, 2 * (0 <<< k / n) + (0 <<< k % n != 0).toNat = 0 := fun k => by simp
  rw [hs]
  exact nearest_zero _
theorem fmul_zero {s : Nat} (h0 : 0 < s) (hs : s < infW) : fmul 0 s = 0 := by
  rw [fmul_nn (show nn 0 from Nat.zero_le _) h0 hs]
  rfl
theorem ans_rest {l : List (Nat × Nat)} (h : drawnL l) : ∀ i, i < l.length → ans l 0 i = (1065353216, 0) := by
  intro i
  induction i with
  | zero =>
    intro hi
    obtain ⟨⟨a1, a2⟩, a3, a4⟩ := h 0 hi
    rw [ans, fmul_zero (by omega) (by unfold infW; omega)]
    rw [show fsub 0 0 = 0 by decide]
  | succ i ih =>
    intro hi
    obtain ⟨⟨a1, a2⟩, a3, a4⟩ := h (i + 1) hi
    obtain ⟨⟨b1, b2⟩, b3, b4⟩ := h i (by omega)
    rw [ans, ih (by omega)]
    show (fadd 1065353216 (fdiv 0 (l.getD i (0, 0)).2), fsub 0 (fmul (fmul 0 (l.getD (i + 1) (0, 0)).1) (fadd 1065353216 (fdiv 0 (l.getD i (0, 0)).2)))) = _
    rw [fdiv_zero (by omega) (by unfold infW; omega), fmul_zero (by omega) (by unfold infW; omega), fadd_zero (by unfold nn; omega), fmul_zero (by decide) (by decide)]
    rw [show fsub 0 0 = 0 by decide]
/-! ### crossings -/
theorem crs_bound (xs : List Nat) : ∀ d i : Nat, ∀ m : Int, (crs xs d i m).2 = 0 → m ≤ (crs xs d i m).1 ∧ (crs xs d i m).1 ≤ m + d := by
  intro d
  induction d with
  | zero => intro i m _; exact ⟨Int.le_refl _, by show m ≤ m + 0; omega⟩
  | succ d ih =>
    intro i m h
    rw [crs] at h ⊢
    by_cases hp : plainV (xs.getD i 0) = true
    · rw [if_pos hp] at h ⊢
      have := ih (i + 1) _ h
      split at this <;> rename_i hc
      · rw [if_pos hc]; omega
      · rw [if_neg hc]; omega
    · rw [if_neg hp] at h
      exact absurd h (by show ¬ (4 : Int) = 0; omega)
theorem crs_zero (xs : List Nat) (n : Nat) (hn : 0 < n) (h : (crs xs n 0 0).2 = 0) : 0 ≤ (crs xs n 0 0).1 ∧ (crs xs n 0 0).1 < n := by
  obtain ⟨d, rfl⟩ : ∃ d, n = d + 1 := ⟨n - 1, by omega⟩
  rw [crs] at h ⊢
  by_cases hp : plainV (xs.getD 0 0) = true
  · rw [if_pos hp, if_neg (by rintro ⟨h, _⟩; omega)] at h ⊢
    have := crs_bound xs d (0 + 1) 0 h
    omega
  · rw [if_neg hp] at h
    exact absurd h (by show ¬ (4 : Int) = 0; omega)
theorem crs_code (xs : List Nat) : ∀ d i : Nat, ∀ m : Int, (crs xs d i m).2 = 0 ∨ crs xs d i m = (0, 4) := by
  intro d
  induction d with
  | zero => intro i m; exact .inl rfl
  | succ d ih =>
    intro i m
    rw [crs]
    split
    · exact ih _ _
    · exact .inr rfl
theorem crsO_law {l : List (Nat × Nat)} {q : Nat} (hl : lineOk l = true) (hq : amountL q = true) : (∃ k : Nat, k < l.length ∧ crsO l q = ((k : Int), 0)) ∨ crsO l q = (0, 4) := by
  have hn := lineOk_len hl
  have e : crsO l q = crs (swL l (cn q) l.length) l.length 0 0 := by
    unfold crsO outL
    rw [if_pos hl, if_pos hq]
    simp [swL_length]
  rw [e]
  rcases crs_code (swL l (cn q) l.length) l.length 0 0 with h | h
  · left
    have := crs_zero _ _ (by omega) h
    generalize crs (swL l (cn q) l.length) l.length 0 0 = o at *
    obtain ⟨a, b⟩ := o
    have h' : b = 0 := h
    have t1 : 0 ≤ a := this.1
    have t2 : a < l.length := this.2
    exact ⟨a.toNat, by omega, by rw [h', Int.toNat_of_nonneg t1]⟩
  · exact .inr h
/-! ### a lone speed -/
/-- What is looked between. -/
structure Between (lo hi : Nat) : Prop where
  h0 : 8388608 ≤ lo
  lt : lo < hi
  h1 : hi ≤ 1233125376
theorem apart_sgn {x y : Nat} (h : apart x y = true) : sgnV x ≠ sgnV y ∧ sgnV x ≠ 0 := by
  unfold apart at h
  have h : sgnV x * sgnV y < 0 := of_decide_eq_true h
  constructor
  · intro e
    rw [e] at h
    have : 0 ≤ sgnV y * sgnV y := by
      rcases Int.le_total 0 (sgnV y) with h2 | h2
      · exact Int.mul_nonneg h2 h2
      · have := Int.mul_nonneg (show 0 ≤ -sgnV y by omega) (show 0 ≤ -sgnV y by omega)
        rwa [Int.neg_mul_neg] at this
    omega
  · intro e
    rw [e, Int.zero_mul] at h
    omega
theorem lone_law {l : List (Nat × Nat)} {lo hi : Nat} (hl : lineOk l = true) (hb : Between lo hi) :
    (apart (lastV l lo) (lastV l hi) = false ∧ loneO l lo hi = (0, 6)) ∨
    (apart (lastV l lo) (lastV l hi) = true ∧ ∃ m, loneO l lo hi = (m, 0) ∧ lo ≤ m ∧ m < hi ∧ sgnV (lastV l m) = sgnV (lastV l lo)) := by
  obtain ⟨h0, h1, h2⟩ := hb
  have c1 : cn lo = lo := nn_cn (by unfold nn; omega)
  have c2 : cn hi = hi := nn_cn (by unfold nn; omega)
  have hf : fineL lo hi = true := by
    unfold fineL
    rw [amount_nn (by omega), amount_nn (by omega), nn_flt (by unfold nn; omega) (by unfold nn; omega)]
    simp [h1]
  unfold loneO
  rw [if_pos hl, if_pos hf, c1, c2]
  cases ha : apart (lastV l lo) (lastV l hi)
  · exact .inl ⟨rfl, by simp⟩
  · right
    refine ⟨rfl, bisL l lo hi, by simp, ?_⟩
    obtain ⟨n1, n2⟩ := apart_sgn ha
    unfold bisL
    rw [c1, c2]
    have := bis_between (g := fun m => decide (sgnV (lastV l m) = sgnV (lastV l lo))) h0 (show hi + 8388608 < infW by unfold infW; omega) 40 lo hi (Nat.le_refl _) h1 (Nat.le_refl _) (decide_eq_true rfl) (decide_eq_false fun e => n1 e.symm)
    exact ⟨this.2.1, this.2.2, of_decide_eq_true this.1⟩
/-! ### what is drawn -/
theorem inertia_ok : ∀ v : Nat, v < 20 → ∀ j : Nat, j < 3 → (decide (1015021568 ≤ fdiv (fi ((v : Int) + 1)) (fi (([1, 3, 4] : List Int).getD j 0))) && decide (fdiv (fi ((v : Int) + 1)) (fi (([1, 3, 4] : List Int).getD j 0)) ≤ 1149239296)) = true := by decide +kernel
theorem stiff_ok : ∀ v : Nat, v < 200 → ∀ j : Nat, j < 3 → (decide (1015021568 ≤ fdiv (fi ((v : Int) + 1)) (fi (([1, 3, 8] : List Int).getD j 0))) && decide (fdiv (fi ((v : Int) + 1)) (fi (([1, 3, 8] : List Int).getD j 0)) ≤ 1233125376)) = true := by decide +kernel
theorem square_ok : ∀ v : Nat, v < 200 → decide (fdiv (fi (v : Int)) 1090519040 ≤ 1233125376) = true := by decide +kernel
theorem low_ok : ∀ v : Nat, v < 60 → (decide (8388608 ≤ fdiv (fi ((v : Int) + 1)) 1098907648) && decide (fdiv (fi ((v : Int) + 1)) 1098907648 < fadd (fdiv (fi ((v : Int) + 1)) 1098907648) 1048576000) && decide (fdiv (fi ((v : Int) + 1)) 1098907648 ≤ 1082130432)) = true := by decide +kernel
theorem step_ok : ∀ v : Nat, v < 250 → (decide (1048576000 ≤ fdiv (fi ((v : Int) + 1)) 1082130432) && decide (fdiv (fi ((v : Int) + 1)) 1082130432 ≤ 1120403456)) = true := by decide +kernel
theorem between_ok {u v : Nat} (hu : u < 60) (hv : v < 250) : Between (fdiv (fi ((u : Int) + 1)) 1098907648) (fadd (fdiv (fi ((u : Int) + 1)) 1098907648) (fdiv (fi ((v : Int) + 1)) 1082130432)) := by
  have h1 := low_ok u hu
  have h2 := step_ok v hv
  simp only [Bool.and_eq_true, decide_eq_true_eq] at h1 h2
  obtain ⟨⟨a1, a2⟩, a3⟩ := h1
  obtain ⟨b1, b2⟩ := h2
  refine ⟨a1, ?_, ?_⟩
  · exact Nat.lt_of_lt_of_le a2 (fadd_mono (by unfold nn; omega) (by unfold nn; omega) (Nat.le_refl _) b1)
  · exact Nat.le_trans (fadd_mono (x' := 1082130432) (y' := 1120403456) (by unfold nn; omega) (by unfold nn; omega) a3 b2) (by decide)
end Go.Proofs.Ythdmfmhhnacgfaa
