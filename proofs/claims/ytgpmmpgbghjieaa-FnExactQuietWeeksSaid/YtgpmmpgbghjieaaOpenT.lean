/- Slices of teeth, opened. -/
import Derived.Test.YtgpmmpgbghjieaaTeeth
import Derived.Test.YtgpmmpgbghjieaaOpen6
namespace Go.Proofs.Ytgpmmpgbghjieaa
open Go.RowKit Go.ChangeShapes Go.WideShapes Go.ChangeAt Go.Deep Ieee
open Go.Proofs.YtgpmmpgbghjieaaW.PrintWords
set_option maxRecDepth 100000
section
variable {H : Type} {enc : TypeId × Value → H} {w : World} {base : Nat} {spare : Nat → Bool} {held : Bool}
theorem open_teeth {r : Reach} {b0 : Nat} {v : Value} {d : DataW H} {p : List MemPlace} (hv : Value.okWide Try.prog w r b0 23 v) (h : DataW.Trod enc Try.prog w base spare held 23 v d p) :
    ∃ A c, ∃ ps : List (Nat × Nat × Nat × Int), v = .slice A ps.length c ∧ ps.length ≤ c ∧ c ≤ maxLen ∧ (A = none → ps.length = 0 ∧ c = 0) ∧ Kd.C kT w A ps.length ps := by
  obtain ⟨A, n, c, rows, rfl, hnc, hcm, hnone, hcells, hrd⟩ := open_rows (ps := [isF, isF, isF, isI .i8]) Try.underlying23 (by kernel_rfl) (by decide) (fun _ _ _ => cells_tooth) hv h
  obtain ⟨xs, hl, hx⟩ := C_of_rows kT (sz := 4) rfl (by unfold maxLen at hcm; omega) (fun i hi => by
    obtain ⟨_, _, e, ⟨a, rfl, ha⟩, _, _, rfl, ⟨b, rfl, hb⟩, _, _, rfl, ⟨q, rfl, hq⟩, _, _, rfl, ⟨s, rfl, hs⟩, rfl⟩ := hcells i hi
    have hs' : -128 ≤ s ∧ s ≤ 127 := by simpa [Lit.wf, IntKind.min, IntKind.max, IntKind.signed, IntKind.bits] using hs
    exact ⟨(cn a, cn b, cn q, s), by rw [e]; exact kT.K_of_M (kT_mkM w 0 (fun _ => True) ⟨rfl, ha⟩ ⟨rfl, hb⟩ ⟨rfl, hq⟩ hs')⟩) hrd
  subst hl
  exact ⟨A, c, xs, rfl, hnc, hcm, hnone, hx⟩
end
end Go.Proofs.Ytgpmmpgbghjieaa
