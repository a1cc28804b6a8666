/- Rows of discs: as a kind; the laws' own functions on them. -/
import Derived.Test.YthdmfmhhnacgfaaKd
import Derived.Test.YthdmfmhhnacgfaaSame
import Derived.Test.YthdmfmhhnacgfaaA
namespace Go.Proofs.Ythdmfmhhnacgfaa
open Go.RowKit Ieee
open Go.Proofs.YthdmfmhhnacgfaaW.PrintWords

def kD : Kd (Nat × Nat) := Kd.pair kf kf
theorem kD_open {w : World} {x : Nat × Nat} {cs : List Value} (h : kD.K w x cs) : ∃ r s, cs = [.float .f32 r, .float .f32 s] ∧ FV r x.1 ∧ FV s x.2 := by
  obtain ⟨_, _, rfl, ⟨r, rfl, hr⟩, ⟨s, rfl, hs⟩⟩ := h
  exact ⟨r, s, rfl, hr, hs⟩
theorem kD_openM {w : World} {base : Nat} {ok : Nat → Prop} {x : Nat × Nat} {cs : List Value} (h : kD.M w base ok x cs) : ∃ r s, cs = [.float .f32 r, .float .f32 s] ∧ FV r x.1 ∧ FV s x.2 := kD_open (w := w) (kD.K_of_M h)
theorem kD_mkM (w : World) (base : Nat) (ok : Nat → Prop) {x : Nat × Nat} {r s : Nat} (hr : FV r x.1) (hs : FV s x.2) : kD.M w base ok x [.float .f32 r, .float .f32 s] :=
  ⟨[.float .f32 r], [.float .f32 s], rfl, ⟨r, rfl, hr⟩, ⟨s, rfl, hs⟩⟩
theorem FV_zero : FV 0 0 := ⟨by decide, by decide⟩
theorem at_kD {w : World} {A : Option Addr} {n : Nat} {l : List (Nat × Nat)} (h : Kd.C kD w A n l) (i : Nat) (hi : i < n) :
    ∃ b off r s, A = some ⟨b, off, none⟩ ∧ b < w.heap.size ∧ w.cell? ⟨b, off + i * 2, none⟩ = some (.float .f32 r) ∧ w.cell? ⟨b, off + i * 2 + 1, none⟩ = some (.float .f32 s) ∧ FV r (l.getD i (0, 0)).1 ∧ FV s (l.getD i (0, 0)).2 := by
  obtain ⟨b, off, c, e, hb, _, hK, hc⟩ := C_at h (show 0 < kD.sz by decide) (0, 0) i hi
  obtain ⟨r, s, rfl, hr, hs⟩ := kD_open hK
  exact ⟨b, off, r, s, e, hb, hc 0 _ rfl, hc 1 _ rfl, hr, hs⟩
theorem info_disc : (Try.prog.info? 48).map (fun i => (i.zero, i.size, i.bytes)) = some (some (.agg #[.float .f32 0, .float .f32 0]), 2, 8) := by kernel_rfl

end Go.Proofs.Ythdmfmhhnacgfaa
