/- Eight floats, opened. -/
import Derived.Test.YtiipnbccfbielaaOpen
namespace Go.Proofs.Ytiipnbccfbielaa
open Go.RowKit Go.ChangeShapes Go.WideShapes Go.ChangeAt Go.Deep Ieee
set_option maxRecDepth 100000
section
variable {H : Type} {enc : TypeId × Value → H} {w : World} {base : Nat} {spare : Nat → Bool} {held : Bool} {fuel : Nat} {cs : List Value} {x : DataW H × List MemPlace}
theorem cells_f8 (h : DataW.trod enc Try.prog w base spare held fuel 36 cs = some x) : Cells [isF, isF, isF, isF, isF, isF, isF, isF] cs :=
  cells_array8 Try.underlying36 (by kernel_rfl) (by kernel_rfl) (fun _ _ _ => cells_f32 Try.underlying35) h
theorem open_f8 {r : Reach} {b0 : Nat} {v : Value} {d : DataW H} {p : List MemPlace} (hv : Value.okWide Try.prog w r b0 36 v) (h : DataW.Trod enc Try.prog w base spare held 36 v d p) :
    ∃ a0 a1 a2 a3 a4 a5 a6 a7, v = .agg #[.float .f32 a0, .float .f32 a1, .float .f32 a2, .float .f32 a3, .float .f32 a4, .float .f32 a5, .float .f32 a6, .float .f32 a7] ∧ a0 < 4294967296 ∧ a1 < 4294967296 ∧ a2 < 4294967296 ∧ a3 < 4294967296 ∧ a4 < 4294967296 ∧ a5 < 4294967296 ∧ a6 < 4294967296 ∧ a7 < 4294967296 := by
  have hv2 : ∃ cs, v = .agg cs := by
    simp only [Value.okWide, Try.underlying36] at hv
    obtain ⟨cs, h1, _⟩ := hv
    exact ⟨cs, h1⟩
  obtain ⟨cs, rfl⟩ := hv2
  obtain ⟨fuel, hf⟩ := h
  obtain ⟨_, _, e, ⟨a0, rfl, h0⟩, _, _, rfl, ⟨a1, rfl, h1⟩, _, _, rfl, ⟨a2, rfl, h2⟩, _, _, rfl, ⟨a3, rfl, h3⟩, _, _, rfl, ⟨a4, rfl, h4⟩, _, _, rfl, ⟨a5, rfl, h5⟩, _, _, rfl, ⟨a6, rfl, h6⟩, _, _, rfl, ⟨a7, rfl, h7⟩, rfl⟩ := cells_f8 hf
  refine ⟨a0, a1, a2, a3, a4, a5, a6, a7, ?_, h0, h1, h2, h3, h4, h5, h6, h7⟩
  simp only [Value.cells] at e
  obtain ⟨cs⟩ := cs
  simp at e
  rw [e]
end
end Go.Proofs.Ytiipnbccfbielaa
