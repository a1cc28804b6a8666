/- The types of chapter 6, opened. -/
import Derived.Test.YtljcjgliddhgkaaDoorOpen
namespace Go.Proofs.YtljcjgliddhgkaaDoor
open Go.RowKit Go.ChangeShapes Go.WideShapes Go.ChangeAt Go.Deep Ieee
set_option maxRecDepth 100000
section
variable {H : Type} {enc : TypeId × Value → H} {w : World} {base : Nat} {spare : Nat → Bool} {held : Bool} {fuel : Nat} {cs : List Value} {x : DataW H × List MemPlace}
theorem cells_tooth (h : DataW.trod enc Tryd.prog w base spare held fuel 26 cs = some x) : Cells [isF, isF, isF, isI .i8] cs :=
  cells_struct3 (p := [isF]) (q := [isF, isF]) (s := [isI .i8]) Tryd.underlying26 (by kernel_rfl) rfl rfl rfl (by kernel_rfl) (by kernel_rfl) (by kernel_rfl)
    (fun _ _ _ => cells_f32 Tryd.underlying22) (fun _ _ _ => cells_array2 Tryd.underlying23 (by kernel_rfl) (by kernel_rfl) fun _ _ _ => cells_f32 Tryd.underlying22) (fun _ _ _ => cells_int Tryd.underlying24) h
theorem open_tooth {r : Reach} {b0 : Nat} {v : Value} {d : DataW H} {p : List MemPlace} (hv : Value.okWide Tryd.prog w r b0 26 v) (h : DataW.Trod enc Tryd.prog w base spare held 26 v d p) :
    ∃ a b c s, v = .agg #[.float .f32 a, .float .f32 b, .float .f32 c, .int .i8 s] ∧ a < 4294967296 ∧ b < 4294967296 ∧ c < 4294967296 ∧ -128 ≤ s ∧ s ≤ 127 := by
  obtain ⟨cs, rfl, _⟩ := okWide_struct Tryd.underlying26 hv
  obtain ⟨fuel, hf⟩ := h
  obtain ⟨_, _, e, ⟨a, rfl, ha⟩, _, _, rfl, ⟨b, rfl, hb⟩, _, _, rfl, ⟨c, rfl, hc⟩, _, _, rfl, ⟨s, rfl, hs⟩, rfl⟩ := cells_tooth hf
  have hs' : -128 ≤ s ∧ s ≤ 127 := by simpa [Lit.wf, IntKind.min, IntKind.max, IntKind.signed, IntKind.bits] using hs
  refine ⟨a, b, c, s, ?_, ha, hb, hc, hs'⟩
  simp only [Value.cells] at e
  obtain ⟨cs⟩ := cs
  simp at e
  rw [e]
end
end Go.Proofs.YtljcjgliddhgkaaDoor
