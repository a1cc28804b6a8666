/- The plain law of plays: monotone along a train; what is least without the play of a pair. -/
import Derived.Test.YtpkmmelinfcdaaaPlay9
import Derived.Test.YtpkmmelinfcdaaaMono
namespace Go.Proofs.Ytpkmmelinfcdaaa
open Go.RowKit Ieee
set_option maxRecDepth 100000

/-- A factor that is no nought and not infinite. -/
def good (u : Nat) : Bool := decide (0 < u) && decide (u < 2139095040)
theorem good_out {u : Nat} (h : good u = true) : 0 < u ∧ u < infW := by
  unfold good at h
  simp at h
  exact h
/-- Plays are numbers from nought up. -/
def nnL (ps : List Nat) : Prop := ∀ i, nn (ps.getD i 0)
def leL (ps qs : List Nat) : Prop := ∀ i, ps.getD i 0 ≤ qs.getD i 0
def upsOk (t : List (Int × Int × Nat)) : Prop := ∀ i, i < t.length → good (upOf (t.getD i zP)) = true
theorem alo_nn {t : List (Int × Int × Nat)} {ps : List Nat} (hu : upsOk t) (hp : nnL ps) : ∀ i, i < t.length → nn (alo t ps i) := by
  intro i
  induction i with
  | zero => intro _; exact hp 0
  | succ i ih =>
    intro h
    obtain ⟨h0, h1⟩ := good_out (hu (i + 1) h)
    exact nn_fadd (nn_fmul (ih (by omega)) h0 h1) (hp _)
theorem alo_mono {t : List (Int × Int × Nat)} {ps qs : List Nat} (hu : upsOk t) (hq : nnL qs) (hl : leL ps qs) : ∀ i, i < t.length → alo t ps i ≤ alo t qs i := by
  intro i
  induction i with
  | zero => intro _; exact hl 0
  | succ i ih =>
    intro h
    obtain ⟨h0, h1⟩ := good_out (hu (i + 1) h)
    exact fadd_mono (nn_fmul (alo_nn hu hq i (by omega)) h0 h1) (hq _) (fmul_mono (alo_nn hu hq i (by omega)) (ih (by omega)) h0 h1) (hl _)
theorem getD_set (ps : List Nat) (i j x : Nat) : (ps.set i x).getD j 0 = if i = j ∧ i < ps.length then x else ps.getD j 0 := by
  rw [List.getD_eq_getElem?_getD, List.getD_eq_getElem?_getD, List.getElem?_set]
  by_cases h : i = j
  · subst h
    by_cases h2 : i < ps.length
    · rw [if_pos rfl, if_pos h2, if_pos ⟨rfl, h2⟩]; rfl
    · rw [if_pos rfl, if_neg h2, if_neg (fun k => h2 k.2), List.getElem?_eq_none (by omega)]
  · rw [if_neg h, if_neg (fun k => h k.1)]
theorem set_zero_le (ps : List Nat) (i : Nat) : leL (ps.set i 0) ps := by
  intro j
  rw [getD_set]
  split
  · omega
  · exact Nat.le_refl _
theorem nnL_set {ps : List Nat} (h : nnL ps) (i : Nat) {x : Nat} (hx : nn x) : nnL (ps.set i x) := by
  intro j
  rw [getD_set]
  split
  · exact hx
  · exact h j
theorem le_set_one {ps : List Nat} (h : ∀ i, ps.getD i 0 ≤ 1065353216) (i : Nat) : leL ps (ps.set i 1065353216) := by
  intro j
  rw [getD_set]
  split
  · exact h j
  · exact Nat.le_refl _
/-- The first least one. -/
theorem wid_first {f : Nat → Nat} (hf : ∀ i, nn (f i)) : ∀ d i b : Nat, 0 < i → b < i → (∀ j, j < i → f b ≤ f j) → (∀ j, j < b → f b < f j) →
    ∃ b' : Nat, b' < i + d ∧ wid f d i (b : Int) (f b) = ((b' : Int), f b') ∧ (∀ j, j < i + d → f b' ≤ f j) ∧ (∀ j, j < b' → f b' < f j) := by
  intro d
  induction d with
  | zero => intro i b _ hb h1 h2; exact ⟨b, by omega, rfl, h1, h2⟩
  | succ d ih =>
    intro i b hi hb h1 h2
    rw [wid]
    by_cases hc : flt (f i) (f b) = true
    · rw [if_pos (.inr hc)]
      rw [nn_flt (hf i) (hf b)] at hc
      have hlt : f i < f b := of_decide_eq_true hc
      obtain ⟨b', h3, h4, h5, h6⟩ := ih (i + 1) i (by omega) (by omega) (fun j hj => by
        rcases Nat.lt_or_ge j i with hji | hji
        · exact Nat.le_trans (Nat.le_of_lt hlt) (h1 j hji)
        · rw [show j = i by omega]; exact Nat.le_refl _) (fun j hj => Nat.lt_of_lt_of_le hlt (h1 j hj))
      exact ⟨b', by omega, h4, fun j hj => h5 j (by omega), h6⟩
    · rw [if_neg (by rintro (h | h); omega; exact hc h)]
      rw [nn_flt (hf i) (hf b)] at hc
      have hge : f b ≤ f i := by have : ¬ f i < f b := fun h => hc (decide_eq_true h); omega
      obtain ⟨b', h3, h4, h5, h6⟩ := ih (i + 1) b (by omega) (by omega) (fun j hj => by
        rcases Nat.lt_or_ge j i with hji | hji
        · exact h1 j hji
        · rw [show j = i by omega]; exact hge) h2
      exact ⟨b', by omega, h4, fun j hj => h5 j (by omega), h6⟩
theorem wid_all {f : Nat → Nat} (hf : ∀ i, nn (f i)) {n : Nat} (hn : 0 < n) :
    ∃ b : Nat, b < n ∧ wid f n 0 0 0 = ((b : Int), f b) ∧ (∀ j, j < n → f b ≤ f j) ∧ (∀ j, j < b → f b < f j) := by
  obtain ⟨m, rfl⟩ : ∃ m, n = m + 1 := ⟨n - 1, by omega⟩
  rw [wid, if_pos (.inl rfl)]
  obtain ⟨b, h1, h2, h3, h4⟩ := wid_first hf m 1 0 (by omega) (by omega) (fun j hj => by rw [show j = 0 by omega]; exact Nat.le_refl _) (fun j hj => by omega)
  exact ⟨b, by omega, h2, fun j hj => h3 j (by omega), h4⟩
end Go.Proofs.Ytpkmmelinfcdaaa
