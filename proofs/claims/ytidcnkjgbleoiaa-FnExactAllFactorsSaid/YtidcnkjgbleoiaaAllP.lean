/- All factors of a box: plain. -/
import Derived.Test.YtidcnkjgbleoiaaPlay
import Derived.Test.YtidcnkjgbleoiaaFacP
import Derived.Test.YtidcnkjgbleoiaaBx2
import Derived.KernelRfl
namespace Go.Proofs.Ytidcnkjgbleoiaa
open Ieee
set_option maxRecDepth 100000
theorem fi_small : ((List.range 201).all fun n => decide (fi (n : Nat) < infW) && (decide (n = 0) || decide (0 < fi (n : Nat)))) = true := by kernel_rfl
theorem fi_inf {n : Int} (h0 : 0 ≤ n) (h1 : n ≤ 200) : fi n < infW := by
  have h := List.all_eq_true.1 fi_small n.toNat (List.mem_range.2 (by omega))
  simp only [Bool.and_eq_true, decide_eq_true_eq] at h
  have e : ((n.toNat : Nat) : Int) = n := by omega
  rw [e] at h
  exact h.1
theorem fi_pos {n : Int} (h0 : 1 ≤ n) (h1 : n ≤ 200) : 0 < fi n := by
  have h := List.all_eq_true.1 fi_small n.toNat (List.mem_range.2 (by omega))
  simp only [Bool.and_eq_true, Bool.or_eq_true, decide_eq_true_eq] at h
  have e : ((n.toNat : Nat) : Int) = n := by omega
  rw [e] at h
  rcases h.2 with h | h
  · omega
  · exact h
/-- Wheels that a box may have. -/
def allW (l : List Int) : Prop := ∀ k, k < l.length → 6 ≤ l.getD k 0 ∧ l.getD k 0 ≤ 200
theorem allW_of {l : List Int} (h : boxOk l = true) : allW l ∧ 2 ≤ l.length ∧ l.length ≤ 24 := by
  unfold boxOk at h
  rw [Bool.and_eq_true] at h
  obtain ⟨h1, h2⟩ := h
  have h2' : 2 ≤ l.length ∧ l.length ≤ 24 := by unfold iin at h2; simp at h2; omega
  refine ⟨fun k hk => ?_, h2'⟩
  have h3 : bxTo l (k + 1) = true := by
    cases h4 : bxTo l (k + 1)
    · rw [bxTo_mono l (show k + 1 ≤ l.length from hk) h4] at h1; cases h1
    · rfl
  rw [bxTo] at h3
  simp only [Bool.and_eq_true] at h3
  have h5 := h3.2.1
  unfold iin at h5
  simp only [Bool.and_eq_true, decide_eq_true_eq] at h5
  exact h5
theorem upV_nn {p q : Int} (h1 : 6 ≤ p) (h2 : p ≤ 200) (h3 : 6 ≤ q) (h4 : q ≤ 200) : nn (upV p q) := nn_fdiv (fi_inf (by omega) h2) (fi_pos (by omega) h4) (fi_inf (by omega) h4)
/-- The factor of two wheels of a box. -/
def fq (l : List Int) (a b : Nat) : Nat := upV (l.getD a 0) (l.getD b 0)
theorem fq_nn {l : List Int} (h : allW l) {a b : Nat} (ha : a < l.length) (hb : b < l.length) : nn (fq l a b) := upV_nn (h a ha).1 (h a ha).2 (h b hb).1 (h b hb).2
/-- The factors of wheel a and the first k wheels. -/
def qsRow (l : List Int) (a : Nat) : Nat → List Nat
  | 0 => []
  | k + 1 => if a = k then qsRow l a k else qsRow l a k ++ [fq l a k]
def qsTo (l : List Int) : Nat → List Nat
  | 0 => []
  | a + 1 => qsTo l a ++ qsRow l a l.length
/-- The factors of all pairs, in their order. -/
def qs (l : List Int) : List Nat := qsTo l l.length
theorem qsRow_nn {l : List Int} (h : allW l) {a : Nat} (ha : a < l.length) : ∀ k, k ≤ l.length → allNn (qsRow l a k)
  | 0, _ => fun _ h => by cases h
  | k + 1, hk => by
    unfold qsRow
    split
    · exact qsRow_nn h ha k (by omega)
    · intro x hx
      rcases List.mem_append.1 hx with hx | hx
      · exact qsRow_nn h ha k (by omega) x hx
      · rw [List.mem_singleton.1 hx]; exact fq_nn h ha (by omega)
theorem qsTo_nn {l : List Int} (h : allW l) : ∀ a, a ≤ l.length → allNn (qsTo l a)
  | 0, _ => fun _ h => by cases h
  | a + 1, ha => fun x hx => by
    rcases List.mem_append.1 hx with hx | hx
    · exact qsTo_nn h a (by omega) x hx
    · exact qsRow_nn h (by omega) l.length (Nat.le_refl _) x hx
theorem qsRow_len (l : List Int) (a : Nat) : ∀ k, (qsRow l a k).length ≤ k
  | 0 => Nat.le_refl _
  | k + 1 => by
    unfold qsRow
    have := qsRow_len l a k
    split
    · omega
    · simp; omega
theorem qsTo_len (l : List Int) : ∀ a, (qsTo l a).length ≤ a * l.length
  | 0 => by simp [qsTo]
  | a + 1 => by
    rw [qsTo, List.length_append]
    have h1 := qsTo_len l a
    have h2 := qsRow_len l a l.length
    rw [Nat.add_mul]; omega
theorem insA_snoc (xs out : List Nat) (v : Nat) : insA (xs ++ [v]) out = insU v (insA xs out) := by unfold insA; rw [List.foldl_append]; rfl
theorem insU_len (v : Nat) : ∀ l : List Nat, (insU v l).length ≤ l.length + 1
  | [] => by simp [insU]
  | a :: l => by
    have := insU_len v l
    unfold insU
    split
    · simp; omega
    · split <;> simp
theorem insA_len : ∀ (xs out : List Nat), (insA xs out).length ≤ xs.length + out.length
  | [], out => by simp [insA]
  | v :: xs, out => by
    have h1 := insA_len xs (insU v out)
    have h2 := insU_len v out
    have e : insA (v :: xs) out = insA xs (insU v out) := rfl
    rw [e, List.length_cons]
    omega
/-- Where a number belongs: all before are less, the one there is not. -/
theorem insU_at {v : Nat} : ∀ (l : List Nat) (k : Nat), k ≤ l.length → (∀ j, j < k → flt (l.getD j 0) v = true) → (k < l.length → flt (l.getD k 0) v = false) →
    insU v l = if k < l.length ∧ feq (l.getD k 0) v = true then l else l.take k ++ v :: l.drop k
  | [], 0, _, _, _ => rfl
  | [], k + 1, h, _, _ => absurd h (by simp)
  | a :: l, 0, _, _, h2 => by
    have := h2 (by simp)
    rw [List.getD_cons_zero] at this
    unfold insU
    rw [this]
    simp only [Bool.false_eq_true, if_false, List.getD_cons_zero, List.length_cons, Nat.zero_lt_succ, true_and, List.take_zero, List.drop_zero, List.nil_append]
  | a :: l, k + 1, h, h1, h2 => by
    have h0 := h1 0 (by omega)
    rw [List.getD_cons_zero] at h0
    have ih := insU_at l k (by simpa using h) (fun j hj => by have := h1 (j + 1) (by omega); rwa [List.getD_cons_succ] at this) (fun hk => by have := h2 (by simpa using hk); rwa [List.getD_cons_succ] at this)
    unfold insU
    rw [h0, if_pos rfl, ih]
    simp only [List.getD_cons_succ, List.length_cons, Nat.add_lt_add_iff_right, List.take_succ_cons, List.drop_succ_cons, List.cons_append]
    split <;> rfl
theorem insA_nn : ∀ {xs out : List Nat}, allNn xs → allNn out → allNn (insA xs out)
  | [], out, _, h => h
  | v :: xs, out, h1, h2 => insA_nn (xs := xs) (out := insU v out) (fun x hx => h1 x (List.mem_cons_of_mem _ hx)) (nn_insU (h1 v List.mem_cons_self) h2)
/-- All factors, each once, in ascending order. -/
def allF (l : List Int) : List Nat := insA (qs l) []
end Go.Proofs.Ytidcnkjgbleoiaa
