/- FnYears: both sizes of what is given. -/
import Derived.Test.YtgdaompppclnlaaYrs2
import Derived.Test.YtgdaompppclnlaaOpenB
namespace Go.Proofs.Ytgdaompppclnlaa
open Go.RowKit Ieee
open Go.Proofs.YtgdaompppclnlaaW.PrintWords
set_option maxRecDepth 100000
attribute [local irreducible] wpRel
theorem f6big_atY (A : Option Addr) (n c : Nat) (b : Bool) (hb : decide ((4096 : Int) < n) = b) (hn : n ≤ 9223372036854775807) (w : World) :
    Calls Try.prog 4 #[.slice A n c] w fun e w' => e = .returned (.bool b) ∧ w = w' := by
  rw [← hb]
  exact f6big_any A n c hn w
theorem law_years (A : Option Addr) (c : Nat) (xs : List Int) (h1 : xs.length ≤ c) (h2 : c ≤ maxLen) (_ : A = none → xs.length = 0 ∧ c = 0)
    (B : Option Addr) (c' : Nat) (ys : List Int) (h3 : ys.length ≤ c') (h4 : c' ≤ maxLen) (_ : B = none → ys.length = 0 ∧ c' = 0) (w : World)
    (hA : Kd.C kB w A xs.length xs ∧ ∀ i, i < xs.length → 0 ≤ xs.getD i 0 ∧ xs.getD i 0 ≤ 255) (hB : Kd.C kB w B ys.length ys ∧ ∀ i, i < ys.length → 0 ≤ ys.getD i 0 ∧ ys.getD i 0 ≤ 255) :
    Calls Try.prog 3 #[.slice A xs.length c, .slice B ys.length c'] w fun e w' => e = .returned (.bool true) ∧ Below w.heap.size w w' := by
  unfold maxLen at h2 h4
  by_cases hx : xs.length ≤ 4096
  · by_cases hy : ys.length ≤ 4096
    · exact years_walk A B c c' xs ys w ⟨hA.1, hA.2, by omega⟩ ⟨hB.1, hB.2, by omega⟩ hx hy
    · have H1 := Lib.hid (f6big_atY A xs.length c false (decide_eq_false (by omega)) (by omega) w)
      have H2 := Lib.hid (f6big_atY B ys.length c' true (decide_eq_true (by omega)) (by omega) w)
      clear hA hB
      go_enter Try.func3, Try.ntmps3
      go_wp2_with (first | (go_at_call 4; refine (H1.out).mono ?_; rintro e w' ⟨rfl, rfl⟩) | (go_at_call 4; refine (H2.out).mono ?_; rintro e w' ⟨rfl, rfl⟩))
      go_ret
      exact ⟨rfl, Below.refl _ _⟩
  · have H1 := Lib.hid (f6big_atY A xs.length c true (decide_eq_true (by omega)) (by omega) w)
    clear hA hB
    go_enter Try.func3, Try.ntmps3
    go_wp2_with (go_at_call 4; refine (H1.out).mono ?_; rintro e w' ⟨rfl, rfl⟩)
    go_ret
    exact ⟨rfl, Below.refl _ _⟩
end Go.Proofs.Ytgdaompppclnlaa
