/- Rows of pairs of wheels: as a kind; the laws' own functions on them. Rows of pairs compared and marked; rows of floats copied. -/
import Derived.Test.YtggcajillncamaaAp
import Derived.Test.YtggcajillncamaaA
namespace Go.Proofs.Ytggcajillncamaa
open Go.RowKit Ieee
open Go.Proofs.YtggcajillncamaaW.PrintWords
set_option maxRecDepth 100000

/-- A whole number of sixteen bits. -/
def ki16 : Kd Int where
  sz := 1
  E := []
  K := fun _ x cs => cs = [.int .i16 x] ∧ -32768 ≤ x ∧ x ≤ 32767
  M := fun _ _ _ x cs => cs = [.int .i16 x] ∧ -32768 ≤ x ∧ x ≤ 32767
  K_len := by rintro w x cs ⟨rfl, _⟩; rfl
  K_one := by rintro w x cs ⟨rfl, _⟩ u hu; rw [List.mem_singleton.1 hu]; rfl
  K_below := fun _ h => h
  K_of_M := fun h => h
  M_mono := fun _ h => h
  M_bound := fun h => h
  M_move := fun _ h => h
  M_lower := fun _ h => h
/-- A pair: driver, driven wheel, loss. -/
def kP : Kd (Int × Int × Nat) := Kd.pair ki16 (Kd.pair ki16 kf)
def i16B (a b : Int) : Prop := -32768 ≤ a ∧ a ≤ 32767 ∧ -32768 ≤ b ∧ b ≤ 32767
theorem kP_open {w : World} {x : Int × Int × Nat} {cs : List Value} (h : kP.K w x cs) : ∃ r, cs = [.int .i16 x.1, .int .i16 x.2.1, .float .f32 r] ∧ FV r x.2.2 ∧ i16B x.1 x.2.1 := by
  obtain ⟨_, _, rfl, ⟨rfl, h1, h2⟩, ⟨_, _, rfl, ⟨rfl, h3, h4⟩, ⟨r, rfl, hr⟩⟩⟩ := h
  exact ⟨r, rfl, hr, h1, h2, h3, h4⟩
theorem kP_openM {w : World} {base : Nat} {ok : Nat → Prop} {x : Int × Int × Nat} {cs : List Value} (h : kP.M w base ok x cs) : ∃ r, cs = [.int .i16 x.1, .int .i16 x.2.1, .float .f32 r] ∧ FV r x.2.2 ∧ i16B x.1 x.2.1 := kP_open (w := w) (kP.K_of_M h)
theorem kP_mkM (w : World) (base : Nat) (ok : Nat → Prop) {a b : Int} {x r : Nat} (hb : i16B a b) (hr : FV r x) : kP.M w base ok (a, b, x) [.int .i16 a, .int .i16 b, .float .f32 r] :=
  ⟨[.int .i16 a], [.int .i16 b, .float .f32 r], rfl, ⟨rfl, hb.1, hb.2.1⟩, [.int .i16 b], [.float .f32 r], rfl, ⟨rfl, hb.2.2.1, hb.2.2.2⟩, ⟨r, rfl, hr⟩⟩
theorem FV_zero : FV 0 0 := ⟨by decide, by decide⟩
def zP : Int × Int × Nat := (0, 0, 0)
theorem at_kP {w : World} {A : Option Addr} {n : Nat} {l : List (Int × Int × Nat)} (h : Kd.C kP w A n l) (i : Nat) (hi : i < n) :
    ∃ b off p q x r, A = some ⟨b, off, none⟩ ∧ b < w.heap.size ∧ w.cell? ⟨b, off + i * 3, none⟩ = some (.int .i16 p) ∧ w.cell? ⟨b, off + i * 3 + 1, none⟩ = some (.int .i16 q) ∧ w.cell? ⟨b, off + i * 3 + 2, none⟩ = some (.float .f32 r) ∧ l.getD i zP = (p, q, x) ∧ FV r x ∧ i16B p q := by
  obtain ⟨b, off, c, e, hb, _, hK, hc⟩ := C_at h (show 0 < kP.sz by decide) zP i hi
  obtain ⟨r, rfl, hr, h16⟩ := kP_open hK
  exact ⟨b, off, _, _, _, r, e, hb, hc 0 _ rfl, hc 1 _ rfl, hc 2 _ rfl, rfl, hr, h16⟩
end Go.Proofs.Ytggcajillncamaa
namespace Go.Proofs.Ytggcajillncamaa
open Go.RowKit Ieee
open Go.Proofs.YtggcajillncamaaW.PrintWords
set_option maxRecDepth 100000

end Go.Proofs.Ytggcajillncamaa
