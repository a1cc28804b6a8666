/- The types of chapter 6, opened. -/
import Derived.Test.YtgpmmpgbghjieaaOpen
namespace Go.Proofs.Ytgpmmpgbghjieaa
open Go.RowKit Go.ChangeShapes Go.WideShapes Go.ChangeAt Go.Deep Ieee
set_option maxRecDepth 100000
section
variable {H : Type} {enc : TypeId × Value → H} {w : World} {base : Nat} {spare : Nat → Bool} {held : Bool} {fuel : Nat} {cs : List Value} {x : DataW H × List MemPlace}
theorem cells_tooth (h : DataW.trod enc Try.prog w base spare held fuel 75 cs = some x) : Cells [isF, isF, isF, isI .i8] cs :=
  cells_struct3 (p := [isF]) (q := [isF, isF]) (s := [isI .i8]) Try.underlying75 (by kernel_rfl) rfl rfl rfl (by kernel_rfl) (by kernel_rfl) (by kernel_rfl)
    (fun _ _ _ => cells_f32 Try.underlying41) (fun _ _ _ => cells_array2 Try.underlying61 (by kernel_rfl) (by kernel_rfl) fun _ _ _ => cells_f32 Try.underlying41) (fun _ _ _ => cells_int Try.underlying62) h
theorem open_tooth {r : Reach} {b0 : Nat} {v : Value} {d : DataW H} {p : List MemPlace} (hv : Value.okWide Try.prog w r b0 75 v) (h : DataW.Trod enc Try.prog w base spare held 75 v d p) :
    ∃ a b c s, v = .agg #[.float .f32 a, .float .f32 b, .float .f32 c, .int .i8 s] ∧ a < 4294967296 ∧ b < 4294967296 ∧ c < 4294967296 ∧ -128 ≤ s ∧ s ≤ 127 := by
  obtain ⟨cs, rfl, _⟩ := okWide_struct Try.underlying75 hv
  obtain ⟨fuel, hf⟩ := h
  obtain ⟨_, _, e, ⟨a, rfl, ha⟩, _, _, rfl, ⟨b, rfl, hb⟩, _, _, rfl, ⟨c, rfl, hc⟩, _, _, rfl, ⟨s, rfl, hs⟩, rfl⟩ := cells_tooth hf
  have hs' : -128 ≤ s ∧ s ≤ 127 := by simpa [Lit.wf, IntKind.min, IntKind.max, IntKind.signed, IntKind.bits] using hs
  refine ⟨a, b, c, s, ?_, ha, hb, hc, hs'⟩
  simp only [Value.cells] at e
  obtain ⟨cs⟩ := cs
  simp at e
  rw [e]
end
end Go.Proofs.Ytgpmmpgbghjieaa
