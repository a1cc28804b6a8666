/- Slices of whole numbers of sixteen bits, opened. -/
import Derived.Test.YtidcnkjgbleoiaaBx
import Derived.Test.YtidcnkjgbleoiaaOpen
namespace Go.Proofs.Ytidcnkjgbleoiaa
open Go.RowKit Go.ChangeShapes Go.WideShapes Go.ChangeAt Go.Deep Ieee
open Go.Proofs.YtidcnkjgbleoiaaW.PrintWords
set_option maxRecDepth 100000
theorem wfi16 {a : Int} (h : (Lit.int .i16 a).wf = true) : -32768 ≤ a ∧ a ≤ 32767 := by simpa [Lit.wf, IntKind.min, IntKind.max, IntKind.signed, IntKind.bits] using h
section
variable {H : Type} {enc : TypeId × Value → H} {w : World} {base : Nat} {spare : Nat → Bool} {held : Bool}
theorem open_i16 {r : Reach} {b0 : Nat} {v : Value} {d : DataW H} {p : List MemPlace} (hv : Value.okWide Try.prog w r b0 22 v) (h : DataW.Trod enc Try.prog w base spare held 22 v d p) :
    ∃ A c, ∃ xs : List Int, v = .slice A xs.length c ∧ xs.length ≤ c ∧ c ≤ maxLen ∧ (A = none → xs.length = 0 ∧ c = 0) ∧ Kd.C ki16 w A xs.length xs := by
  obtain ⟨A, n, c, rows, rfl, hnc, hcm, hnone, hcells, hrd⟩ := open_rows (ps := [isI .i16]) Try.underlying22 (by kernel_rfl) (by decide) (fun _ _ _ => cells_int Try.underlying40) hv h
  obtain ⟨xs, hl, hx⟩ := C_of_rows ki16 (sz := 1) rfl (by unfold maxLen at hcm; omega) (fun i hi => by
    obtain ⟨_, _, e, ⟨a, rfl, ha⟩, rfl⟩ := hcells i hi
    exact ⟨a, by rw [e]; exact ⟨rfl, wfi16 ha⟩⟩) hrd
  subst hl
  exact ⟨A, c, xs, rfl, hnc, hcm, hnone, hx⟩
end
end Go.Proofs.Ytidcnkjgbleoiaa
