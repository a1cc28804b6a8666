/- The library's binary search of whole numbers of sixteen bits (turned from the shelf's walk at int). -/
import Derived.Test.YtggcajillncamaaBx
import Derived.Lib.SlicesSearch
import Derived.Deep.LoopGhost
import Derived.Deep.Draws
import Derived.WalkKit
import Derived.RegionTactic
import Derived.BigRegion
namespace Go.Proofs.Ytggcajillncamaa
open Go.RowKit Ieee
open Go.Proofs.YtggcajillncamaaW.PrintWords
set_option maxRecDepth 100000
attribute [local irreducible] wpRel
/-- How many wheels have less teeth. -/
def plc (l : List Int) (x : Int) : Nat := l.countP (fun y => decide (y < x))
theorem plc_eq {l : List Int} {x : Int} {i : Nat} (hi : i ≤ l.length) (h1 : ∀ j, j < i → l.getD j 0 < x) (h2 : ∀ j, i ≤ j → j < l.length → x ≤ l.getD j 0) : plc l x = i :=
  Lib.countP_split _ l i hi (fun j hj => decide_eq_true (h1 j hj)) (fun j h3 h4 => decide_eq_false (by have := h2 j h3 h4; omega))
/-- Whether there is a wheel of so many teeth. -/
def isW (l : List Int) (x : Int) : Bool := decide (plc l x < l.length ∧ l.getD (plc l x) 0 = x)
def ascI (l : List Int) : Prop := ∀ a b, a ≤ b → b < l.length → l.getD a 0 ≤ l.getD b 0
theorem isNaN16_any (x : Int) (w : World) : Calls Try.prog 72 #[.int .i16 x] w fun e w' => e = .returned (.bool false) ∧ w = w' := by
  go_enter Try.func72, Try.ntmps72
  go_wp2
  go_ret
  exact ⟨by simp, rfl⟩
theorem isNaNs16_any (x : Int) (w : World) : Calls Try.prog 59 #[.int .i16 x] w fun e w' => e = .returned (.bool false) ∧ w = w' := by
  go_enter Try.func59, Try.ntmps59
  go_wp2
  go_ret
  exact ⟨by simp, rfl⟩
theorem less16_any (x y : Int) (w : World) : Calls Try.prog 58 #[.int .i16 x, .int .i16 y] w fun e w' => e = .returned (.bool (decide (x < y))) ∧ w = w' := by
  go_enter Try.func58, Try.ntmps58
  go_wp2_with (go_at_call 72; refine (isNaN16_any _ _).mono ?_; rintro e w' ⟨rfl, rfl⟩)
  go_ret
  exact ⟨by simp, rfl⟩
set_option maxHeartbeats 4000000 in
set_option maxRecDepth 1000000 in
theorem search_any (A : Option Addr) (c : Nat) (l : List Int) (x : Int) (w : World) (hA : Kd.C ki16 w A l.length l) (hs : ascI l) (hm : l.length ≤ 1000) (h0 : 0 < l.length) :
    Calls Try.prog 36 #[.slice A l.length c, .int .i16 x] w fun e w' => e = .returned (.tuple #[.int .i64 (plc l x : Nat), .bool (isW l x)]) ∧ ∃ q, w' = w.drewN q := by
  obtain ⟨b, off, rfl, _, _, _, _⟩ := at_ki hA 0 h0
  have HC := Lib.hid (fun j (hj : j < l.length) => at_ki1 hA j hj b off rfl)
  have S := Lib.hid hs
  clear hs hA
  go_enter Try.func36, Try.ntmps36
  go_wp2
  go_loopg [7, 8, 9] l.length (fun g s7 s8 _ wr => ∃ lo hi q : Nat, s7 = .int .i64 lo ∧ s8 = .int .i64 hi ∧ lo ≤ hi ∧ hi ≤ l.length ∧ hi - lo ≤ g ∧ wr = w.drewN q ∧ (∀ t, t < lo → l.getD t 0 < x) ∧ (∀ t, hi ≤ t → t < l.length → x ≤ l.getD t 0))
  case atStart => exact ⟨0, l.length, 0, rfl, rfl, Nat.zero_le _, Nat.le_refl _, by omega, rfl, fun t ht => absurd ht (Nat.not_lt_zero _), fun t h1 h2 => by omega⟩
  case round =>
    obtain ⟨lo, hi, q, rfl, rfl, hlh, hin, hg, rfl, h1, h2⟩ := hrel
    have I := Lib.hid (show (∀ t, t < lo → l.getD t 0 < x) ∧ (∀ t, hi ≤ t → t < l.length → x ≤ l.getD t 0) from ⟨h1, h2⟩)
    clear h1 h2
    by_cases hlt : lo < hi
    · have cm := HC.out ((lo + hi) / 2) (by omega)
      generalize hy : l.getD ((lo + hi) / 2) 0 = y at cm
      have Y := Lib.hid hy
      clear hy
      by_cases hyx : y < x
      · go_wp2_with (go_at_call 58; refine (less16_any _ _ _).mono ?_; rintro e w' ⟨rfl, rfl⟩)
        go_roundg (hi - ((lo + hi) / 2 + 1))
        case measure => omega
        case rel =>
          refine ⟨(lo + hi) / 2 + 1, hi, _, by rw [show ((lo : Int) + (hi : Int)) / 2 + 1 = (((lo + hi) / 2 + 1 : Nat) : Int) by omega], rfl, by omega, hin, Nat.le_refl _, rfl, fun t ht => ?_, I.out.2⟩
          have := S.out t ((lo + hi) / 2) (by omega) (by omega)
          rw [Y.out] at this
          omega
      · go_wp2_with (go_at_call 58; refine (less16_any _ _ _).mono ?_; rintro e w' ⟨rfl, rfl⟩)
        go_roundg ((lo + hi) / 2 - lo)
        case measure => omega
        case rel =>
          refine ⟨lo, (lo + hi) / 2, _, rfl, by rw [show ((lo : Int) + (hi : Int)) / 2 = (((lo + hi) / 2 : Nat) : Int) by omega], by omega, by omega, Nat.le_refl _, rfl, I.out.1, fun t ht htn => ?_⟩
          have := S.out ((lo + hi) / 2) t ht htn
          rw [Y.out] at this
          omega
    · have : hi = lo := by omega
      subst this
      have hp := plc_eq hin I.out.1 I.out.2
      have E := Lib.hid (show plc l x = hi ∧ isW l x = decide (hi < l.length ∧ l.getD hi 0 = x) from ⟨hp, by unfold isW; rw [hp]⟩)
      clear hp
      by_cases hn : hi < l.length
      · have cl := HC.out hi hn
        generalize hy : l.getD hi 0 = y at cl
        have Y := Lib.hid hy
        clear hy
        by_cases hyx : y = x
        · go_wp2_with (go_at_call 59; refine (isNaNs16_any _ _).mono ?_; rintro e w' ⟨rfl, rfl⟩)
          go_ret2
          refine ⟨?_, _, rfl⟩
          rw [E.out.1, E.out.2, Y.out, decide_eq_true (show hi < l.length ∧ y = x from ⟨hn, hyx⟩)]
          first | rfl | simp [*]
        · go_wp2_with (go_at_call 59; refine (isNaNs16_any _ _).mono ?_; rintro e w' ⟨rfl, rfl⟩)
          go_ret2
          refine ⟨?_, _, rfl⟩
          rw [E.out.1, E.out.2, Y.out, decide_eq_false (show ¬ (hi < l.length ∧ y = x) from fun h => hyx h.2)]
          first | rfl | simp [*]
      · go_wp2_with (go_at_call 59; refine (isNaNs16_any _ _).mono ?_; rintro e w' ⟨rfl, rfl⟩)
        go_ret2
        refine ⟨?_, _, rfl⟩
        rw [E.out.1, E.out.2, decide_eq_false (show ¬ (hi < l.length ∧ l.getD hi 0 = x) from fun h => hn h.1)]
        first | rfl | simp [*]
end Go.Proofs.Ytggcajillncamaa
