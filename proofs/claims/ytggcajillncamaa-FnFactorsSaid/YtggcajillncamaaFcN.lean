/- Slices of bytes, opened. FnFactors: both sizes of what is given. -/
import Derived.Test.YtggcajillncamaaDrwA
import Derived.Test.YtggcajillncamaaOpen
import Derived.Test.YtggcajillncamaaFcM
namespace Go.Proofs.Ytggcajillncamaa
open Go.RowKit Go.ChangeShapes Go.WideShapes Go.ChangeAt Go.Deep Ieee
open Go.Proofs.YtggcajillncamaaW.PrintWords
set_option maxRecDepth 100000
/-- A byte within its bounds. -/
def kBb : Kd Int where
  sz := 1
  E := []
  K := fun _ x cs => cs = [.int .u8 x] ∧ 0 ≤ x ∧ x ≤ 255
  M := fun _ _ _ x cs => cs = [.int .u8 x] ∧ 0 ≤ x ∧ x ≤ 255
  K_len := by rintro w x cs ⟨rfl, _⟩; rfl
  K_one := by rintro w x cs ⟨rfl, _⟩ u hu; rw [List.mem_singleton.1 hu]; rfl
  K_below := fun _ h => h
  K_of_M := fun h => h
  M_mono := fun _ h => h
  M_bound := fun h => h
  M_move := fun _ h => h
  M_lower := fun _ h => h
theorem wfu8 {a : Int} (h : (Lit.int .u8 a).wf = true) : 0 ≤ a ∧ a ≤ 255 := by simpa [Lit.wf, IntKind.min, IntKind.max, IntKind.signed, IntKind.bits] using h
section
variable {H : Type} {enc : TypeId × Value → H} {w : World} {base : Nat} {spare : Nat → Bool} {held : Bool}
theorem open_bytes {r : Reach} {b0 : Nat} {v : Value} {d : DataW H} {p : List MemPlace} (hv : Value.okWide Try.prog w r b0 22 v) (h : DataW.Trod enc Try.prog w base spare held 22 v d p) :
    ∃ A c, ∃ xs : List Int, v = .slice A xs.length c ∧ xs.length ≤ c ∧ c ≤ maxLen ∧ (A = none → xs.length = 0 ∧ c = 0) ∧ (Kd.C kB w A xs.length xs ∧ ∀ i, i < xs.length → 0 ≤ xs.getD i 0 ∧ xs.getD i 0 ≤ 255) := by
  obtain ⟨A, n, c, rows, rfl, hnc, hcm, hnone, hcells, hrd⟩ := open_rows (ps := [isI .u8]) Try.underlying22 (by kernel_rfl) (by decide) (fun _ _ _ => cells_int Try.underlying5) hv h
  obtain ⟨xs, hl, hx⟩ := C_of_rows kBb (sz := 1) rfl (by unfold maxLen at hcm; omega) (fun i hi => by
    obtain ⟨_, _, e, ⟨a, rfl, ha⟩, rfl⟩ := hcells i hi
    exact ⟨a, by rw [e]; exact ⟨rfl, wfu8 ha⟩⟩) hrd
  subst hl
  refine ⟨A, c, xs, rfl, hnc, hcm, hnone, ?_, fun i hi => ?_⟩
  · obtain ⟨h1, h2, h3⟩ := hx
    refine ⟨h1, h2, fun hn => ?_⟩
    obtain ⟨ad, e, h4⟩ := h3 hn
    refine ⟨ad, e, fun j p hj => ?_⟩
    obtain ⟨cs, h5, h6, h7⟩ := h4 j p hj
    exact ⟨cs, h5, h6.1, h7⟩
  · obtain ⟨_, _, cs, _, _, _, hK, _⟩ := C_at hx (show 0 < kBb.sz by decide) 0 i hi
    exact hK.2
end
end Go.Proofs.Ytggcajillncamaa
namespace Go.Proofs.Ytggcajillncamaa
open Go.RowKit Ieee
open Go.Proofs.YtggcajillncamaaW.PrintWords
set_option maxRecDepth 100000
attribute [local irreducible] wpRel
theorem law_factors (A : Option Addr) (c : Nat) (xs : List Int) (h1 : xs.length ≤ c) (h2 : c ≤ maxLen) (_ : A = none → xs.length = 0 ∧ c = 0)
    (B : Option Addr) (c' : Nat) (ys : List Int) (h3 : ys.length ≤ c') (h4 : c' ≤ maxLen) (_ : B = none → ys.length = 0 ∧ c' = 0) (w : World)
    (hA : Kd.C kB w A xs.length xs ∧ ∀ i, i < xs.length → 0 ≤ xs.getD i 0 ∧ xs.getD i 0 ≤ 255) (hB : Kd.C kB w B ys.length ys ∧ ∀ i, i < ys.length → 0 ≤ ys.getD i 0 ∧ ys.getD i 0 ≤ 255) :
    Calls Try.prog 3 #[.slice A xs.length c, .slice B ys.length c'] w fun e w' => e = .returned (.bool true) ∧ Below w.heap.size w w' := by
  unfold maxLen at h2 h4
  by_cases h : xs.length ≤ 3000 ∧ ys.length ≤ 3000
  · exact factors_walk A B c c' xs ys w ⟨hA.1, hA.2, by omega⟩ ⟨hB.1, hB.2, by omega⟩ h.1 h.2
  · have H1 := Lib.hid (a2Long_at A B xs.length c ys.length c' true (by simp; omega) (by omega) (by omega) w)
    clear hA hB
    go_enter Try.func3, Try.ntmps3
    go_wp2_with (go_at_call 4; refine (H1.out).mono ?_; rintro e w' ⟨rfl, rfl⟩)
    go_ret
    exact ⟨rfl, Below.refl _ _⟩
end Go.Proofs.Ytggcajillncamaa
