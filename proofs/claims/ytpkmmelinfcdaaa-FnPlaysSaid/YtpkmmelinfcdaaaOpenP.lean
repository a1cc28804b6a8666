/- Slices of pairs and of floats, opened. -/
import Derived.Test.YtpkmmelinfcdaaaPair
namespace Go.Proofs.Ytpkmmelinfcdaaa
open Go.RowKit Go.ChangeShapes Go.WideShapes Go.ChangeAt Go.Deep Ieee
open Go.Proofs.YtpkmmelinfcdaaaW.PrintWords
set_option maxRecDepth 100000
section
variable {H : Type} {enc : TypeId × Value → H} {w : World} {base : Nat} {spare : Nat → Bool} {held : Bool} {fuel : Nat} {cs : List Value} {x : DataW H × List MemPlace}
theorem cells_pair (h : DataW.trod enc Try.prog w base spare held fuel 58 cs = some x) : Cells [isI .i16, isI .i16, isF] cs :=
  cells_struct3 (p := [isI .i16]) (q := [isI .i16]) (s := [isF]) Try.underlying58 (by kernel_rfl) rfl rfl rfl (by kernel_rfl) (by kernel_rfl) (by kernel_rfl)
    (fun _ _ _ => cells_int Try.underlying54) (fun _ _ _ => cells_int Try.underlying54) (fun _ _ _ => cells_f32 Try.underlying25) h
theorem wf16 {a : Int} (h : (Lit.int .i16 a).wf = true) : -32768 ≤ a ∧ a ≤ 32767 := by simpa [Lit.wf, IntKind.min, IntKind.max, IntKind.signed, IntKind.bits] using h
theorem open_pairs {r : Reach} {b0 : Nat} {v : Value} {d : DataW H} {p : List MemPlace} (hv : Value.okWide Try.prog w r b0 22 v) (h : DataW.Trod enc Try.prog w base spare held 22 v d p) :
    ∃ A c, ∃ ps : List (Int × Int × Nat), v = .slice A ps.length c ∧ ps.length ≤ c ∧ c ≤ maxLen ∧ (A = none → ps.length = 0 ∧ c = 0) ∧ Kd.C kP w A ps.length ps := by
  obtain ⟨A, n, c, rows, rfl, hnc, hcm, hnone, hcells, hrd⟩ := open_rows (ps := [isI .i16, isI .i16, isF]) Try.underlying22 (by kernel_rfl) (by decide) (fun _ _ _ => cells_pair) hv h
  obtain ⟨xs, hl, hx⟩ := C_of_rows kP (sz := 3) rfl (by unfold maxLen at hcm; omega) (fun i hi => by
    obtain ⟨_, _, e, ⟨a, rfl, ha⟩, _, _, rfl, ⟨b, rfl, hb⟩, _, _, rfl, ⟨q, rfl, hq⟩, rfl⟩ := hcells i hi
    have ha' := wf16 ha
    have hb' := wf16 hb
    exact ⟨(a, b, cn q), by rw [e]; exact kP.K_of_M (kP_mkM w 0 (fun _ => True) ⟨ha'.1, ha'.2, hb'.1, hb'.2⟩ ⟨rfl, hq⟩)⟩) hrd
  subst hl
  exact ⟨A, c, xs, rfl, hnc, hcm, hnone, hx⟩
theorem open_floats {r : Reach} {b0 : Nat} {v : Value} {d : DataW H} {p : List MemPlace} (hv : Value.okWide Try.prog w r b0 23 v) (h : DataW.Trod enc Try.prog w base spare held 23 v d p) :
    ∃ A c, ∃ ps : List Nat, v = .slice A ps.length c ∧ ps.length ≤ c ∧ c ≤ maxLen ∧ (A = none → ps.length = 0 ∧ c = 0) ∧ Kd.C kf w A ps.length ps := by
  obtain ⟨A, n, c, rows, rfl, hnc, hcm, hnone, hcells, hrd⟩ := open_rows (ps := [isF]) Try.underlying23 (by kernel_rfl) (by decide) (fun _ _ _ => cells_f32 Try.underlying25) hv h
  obtain ⟨xs, hl, hx⟩ := C_of_rows kf (sz := 1) rfl (by unfold maxLen at hcm; omega) (fun i hi => by
    obtain ⟨_, _, e, ⟨q, rfl, hq⟩, rfl⟩ := hcells i hi
    exact ⟨cn q, by rw [e]; exact ⟨q, rfl, rfl, hq⟩⟩) hrd
  subst hl
  exact ⟨A, c, xs, rfl, hnc, hcm, hnone, hx⟩
end
end Go.Proofs.Ytpkmmelinfcdaaa
