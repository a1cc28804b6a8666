/- FnLines: both sizes of what is given. -/
import Derived.Test.YthdmfmhhnacgfaaLns2
import Derived.Test.YthdmfmhhnacgfaaOpenB
namespace Go.Proofs.Ythdmfmhhnacgfaa
open Go.RowKit Ieee
open Go.Proofs.YthdmfmhhnacgfaaW.PrintWords
set_option maxRecDepth 100000
attribute [local irreducible] wpRel
theorem law_lines (A : Option Addr) (c : Nat) (xs : List Int) (h1 : xs.length ≤ c) (h2 : c ≤ maxLen) (_ : A = none → xs.length = 0 ∧ c = 0)
    (B : Option Addr) (c' : Nat) (ys : List Int) (h3 : ys.length ≤ c') (h4 : c' ≤ maxLen) (_ : B = none → ys.length = 0 ∧ c' = 0) (w : World)
    (hA : Kd.C kB w A xs.length xs ∧ ∀ i, i < xs.length → 0 ≤ xs.getD i 0 ∧ xs.getD i 0 ≤ 255) (hB : Kd.C kB w B ys.length ys ∧ ∀ i, i < ys.length → 0 ≤ ys.getD i 0 ∧ ys.getD i 0 ≤ 255) :
    Calls Try.prog 3 #[.slice A xs.length c, .slice B ys.length c'] w fun e w' => e = .returned (.bool true) ∧ Below w.heap.size w w' := by
  unfold maxLen at h2 h4
  by_cases h : xs.length ≤ 3000 ∧ ys.length ≤ 3000
  · exact lines_walk A B c c' xs ys w ⟨hA.1, hA.2, by omega⟩ ⟨hB.1, hB.2, by omega⟩ h.1 h.2
  · have H1 := Lib.hid (a2Long_at A B xs.length c ys.length c' true (by simp; omega) (by omega) (by omega) w)
    clear hA hB
    go_enter Try.func3, Try.ntmps3
    go_wp2_with (go_at_call 4; refine (H1.out).mono ?_; rintro e w' ⟨rfl, rfl⟩)
    go_ret
    exact ⟨rfl, Below.refl _ _⟩
end Go.Proofs.Ythdmfmhhnacgfaa
