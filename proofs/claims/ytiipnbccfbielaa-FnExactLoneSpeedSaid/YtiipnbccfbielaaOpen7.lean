/- Slices of discs, opened. -/
import Derived.Test.YtiipnbccfbielaaDisc
namespace Go.Proofs.Ytiipnbccfbielaa
open Go.RowKit Go.ChangeShapes Go.WideShapes Go.ChangeAt Go.Deep Ieee
open Go.Proofs.YtiipnbccfbielaaW.PrintWords
set_option maxRecDepth 100000
section
variable {H : Type} {enc : TypeId × Value → H} {w : World} {base : Nat} {spare : Nat → Bool} {held : Bool} {fuel : Nat} {cs : List Value} {x : DataW H × List MemPlace}
theorem cells_disc (h : DataW.trod enc Try.prog w base spare held fuel 86 cs = some x) : Cells [isF, isF] cs :=
  cells_struct2 (p := [isF]) (q := [isF]) Try.underlying86 (by kernel_rfl) rfl rfl (by kernel_rfl) (by kernel_rfl)
    (fun _ _ _ => cells_f32 Try.underlying35) (fun _ _ _ => cells_f32 Try.underlying35) h
theorem open_discs {r : Reach} {b0 : Nat} {v : Value} {d : DataW H} {p : List MemPlace} (hv : Value.okWide Try.prog w r b0 28 v) (h : DataW.Trod enc Try.prog w base spare held 28 v d p) :
    ∃ A c, ∃ ps : List (Nat × Nat), v = .slice A ps.length c ∧ ps.length ≤ c ∧ c ≤ maxLen ∧ (A = none → ps.length = 0 ∧ c = 0) ∧ Kd.C kD w A ps.length ps := by
  obtain ⟨A, n, c, rows, rfl, hnc, hcm, hnone, hcells, hrd⟩ := open_rows (ps := [isF, isF]) Try.underlying28 (by kernel_rfl) (by decide) (fun _ _ _ => cells_disc) hv h
  obtain ⟨xs, hl, hx⟩ := C_of_rows kD (sz := 2) rfl (by unfold maxLen at hcm; omega) (fun i hi => by
    obtain ⟨_, _, e, ⟨a, rfl, ha⟩, _, _, rfl, ⟨b, rfl, hb⟩, rfl⟩ := hcells i hi
    exact ⟨(cn a, cn b), by rw [e]; exact kD.K_of_M (kD_mkM w 0 (fun _ => True) (x := (cn a, cn b)) ⟨rfl, ha⟩ ⟨rfl, hb⟩)⟩) hrd
  subst hl
  exact ⟨A, c, xs, rfl, hnc, hcm, hnone, hx⟩
end
end Go.Proofs.Ytiipnbccfbielaa
