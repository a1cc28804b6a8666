/- Texts cut at one byte: plain. -/
import Derived.Lib.SplitLaws
import Derived.Lib.Split
import Derived.Lib.Join
import Derived.Lib.IndexBytes
namespace Go.Proofs.YtdekolkngokmpaaDoor
set_option maxRecDepth 100000

/-- A text cut at a byte. -/
def splC (c : UInt8) : List UInt8 → List (List UInt8)
  | [] => [[]]
  | b :: l => if b = c then [] :: splC c l else ((b :: (splC c l).headD []) :: (splC c l).tail)
theorem splC_cons (c : UInt8) (l : List UInt8) : ∃ h t, splC c l = h :: t := by
  cases l with
  | nil => exact ⟨[], [], rfl⟩
  | cons b l =>
    unfold splC
    split
    · exact ⟨_, _, rfl⟩
    · exact ⟨_, _, rfl⟩
theorem splitK_one (c : UInt8) : ∀ s : List UInt8, Go.Lib.splitK [c] 0 (Go.Lib.count s [c]) s = splC c s := by
  intro s
  induction s with
  | nil => rfl
  | cons b l ih =>
    by_cases hb : b = c
    · subst hb
      have hi : Go.Lib.index (b :: l) [b] = 0 := by unfold Go.Lib.index; rw [if_pos (by simp)]
      rw [Go.Lib.count_cons_eq, Nat.add_comm, Go.Lib.splitK, hi, splC, if_pos rfl]
      rw [if_neg (by decide)]
      show (b :: l).take 0 :: Go.Lib.splitK [b] 0 (Go.Lib.count l [b]) ((b :: l).drop 1) = _
      rw [List.take_zero, List.drop_succ_cons, List.drop_zero, ih]
    · rw [Go.Lib.count_cons_ne b c l hb, splC, if_neg hb]
      cases hk : Go.Lib.count l [c] with
      | zero =>
        rw [hk] at ih
        rw [← ih]
        rfl
      | succ k =>
        rw [hk] at ih
        have hne : ¬ (Go.Lib.index l [c] == -1) = true := fun h => by
          have := Go.Lib.count_miss (by simpa using h : Go.Lib.index l [c] = -1)
          omega
        have hi : Go.Lib.index (b :: l) [c] = Go.Lib.index l [c] + 1 := by
          rw [Go.Lib.index, if_neg (by simp; exact fun h => hb h.symm), if_neg hne]
        have hge := Go.Lib.index_ge l [c]
        obtain ⟨i, hii⟩ : ∃ i : Nat, Go.Lib.index l [c] = i := ⟨(Go.Lib.index l [c]).toNat, by have : Go.Lib.index l [c] ≠ -1 := fun e => hne (by rw [e]; decide); omega⟩
        rw [Go.Lib.splitK, if_neg hne, hii] at ih
        rw [Go.Lib.splitK, hi, hii, if_neg (by simp; omega), ← ih]
        have e1 : ((i : Int) + 1).toNat = i + 1 := by omega
        have e2 : ((i : Int)).toNat = i := by omega
        rw [e1, e2]
        simp [List.take_succ_cons, List.headD, List.tail]
theorem split_one (c : UInt8) (s : List UInt8) : Go.Lib.split s [c] = splC c s := splitK_one c s
theorem splC_none (c : UInt8) : ∀ p : List UInt8, c ∉ p → splC c p = [p] := by
  intro p
  induction p with
  | nil => intro _; rfl
  | cons b l ih =>
    intro h
    have h1 : b ≠ c := fun e => h (by rw [e]; exact List.mem_cons_self)
    have h2 : c ∉ l := fun e => h (List.mem_cons_of_mem _ e)
    rw [splC, if_neg h1, ih h2]
    rfl
theorem splC_app (c : UInt8) (r : List UInt8) : ∀ p : List UInt8, c ∉ p → splC c (p ++ c :: r) = p :: splC c r := by
  intro p
  induction p with
  | nil => intro _; rw [List.nil_append, splC, if_pos rfl]
  | cons b l ih =>
    intro h
    have h1 : b ≠ c := fun e => h (by rw [e]; exact List.mem_cons_self)
    have h2 : c ∉ l := fun e => h (List.mem_cons_of_mem _ e)
    rw [List.cons_append, splC, if_neg h1, ih h2]
    rfl
theorem join_splC (c : UInt8) : ∀ s : List UInt8, [c].intercalate (splC c s) = s := by
  intro s
  induction s with
  | nil => rfl
  | cons b l ih =>
    obtain ⟨h, t, e⟩ := splC_cons c l
    by_cases hb : b = c
    · subst hb
      rw [splC, if_pos rfl]
      rw [e] at ih ⊢
      rw [← ih]
      simp [List.intercalate, List.intersperse]
    · rw [splC, if_neg hb]
      rw [e] at ih ⊢
      rw [← ih]
      cases t with
      | nil => simp [List.intercalate, List.intersperse]
      | cons u t => simp [List.intercalate, List.intersperse]
theorem splC_not_mem (c : UInt8) : ∀ s : List UInt8, ∀ p, p ∈ splC c s → c ∉ p := by
  intro s
  induction s with
  | nil => intro p hp; simp [splC] at hp; subst hp; simp
  | cons b l ih =>
    intro p hp
    obtain ⟨h, t, e⟩ := splC_cons c l
    by_cases hb : b = c
    · rw [splC, if_pos hb] at hp
      rcases List.mem_cons.1 hp with rfl | hp
      · simp
      · exact ih p hp
    · rw [splC, if_neg hb, e] at hp
      rcases List.mem_cons.1 hp with rfl | hp
      · intro hc
        rcases List.mem_cons.1 hc with hc | hc
        · exact hb hc.symm
        · exact ih h (by rw [e]; exact List.mem_cons_self) hc
      · exact ih p (by rw [e]; exact List.mem_cons_of_mem _ hp)
end Go.Proofs.YtdekolkngokmpaaDoor
