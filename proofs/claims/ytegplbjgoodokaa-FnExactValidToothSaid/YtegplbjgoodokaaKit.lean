/- Small laws for the walks: what stays behind a call that makes memory of its own, lists in memory, closing steps. -/
import Derived.Test.YtegplbjgoodokaaRun
import Derived.Handy
import Derived.Deep.DeepMust
import Derived.Laws.OwnMore
namespace Go.Proofs.Ytegplbjgoodokaa
open Go.RowKit Ieee

theorem balloc {w W : World} (h : Below w.heap.size w W) (o : Obj) : Below w.heap.size w (W.alloc o) := h.alloc h.size o
theorem bdrewN {w W : World} {B : Nat} (h : Below B w W) (n : Nat) : Below B w (W.drewN n) := ⟨h.os, h.tape, h.output, h.size, h.block⟩
theorem bdrew {w W : World} {B : Nat} (h : Below B w W) : Below B w W.drew := h.drew
theorem bstep {w W W' : World} (h : Below w.heap.size w W) (k : Below W.heap.size W W') : Below w.heap.size w W' := h.trans (k.mono h.size)
theorem bset {w W : World} (h : Below w.heap.size w W) {p : Addr} (hp : w.heap.size ≤ p.block) (u : Value) : Below w.heap.size w (W.setCell p u) := h.setCell hp u
theorem bc {w W : World} (h : Below w.heap.size w W) : ∀ b o, b < w.heap.size → W.cell? ⟨b, o, none⟩ = w.cell? ⟨b, o, none⟩ := fun b o hb => h.cell (p := ⟨b, o, none⟩) hb
theorem bf {w W : World} (h : Below w.heap.size w W) : ∀ b o, b < w.heap.size → W.frozen? ⟨b, o, none⟩ = w.frozen? ⟨b, o, none⟩ := fun b o hb => h.frozen (p := ⟨b, o, none⟩) hb

/-- A slice's rows, read: row i has the cells f i 0, f i 1, .. -/
def Rd (w : World) (A : Option Addr) (n sz : Nat) (f : Nat → Nat → Value) : Prop :=
  0 < n → ∃ b off, A = some ⟨b, off, none⟩ ∧ b < w.heap.size ∧ ∀ i, i < n → ∀ j, j < sz → w.cell? ⟨b, off + i * sz + j, none⟩ = some (f i j)
theorem Rd.below {w W : World} {A : Option Addr} {n sz : Nat} {f : Nat → Nat → Value} (h : Rd w A n sz f) (k : Below w.heap.size w W) : Rd W A n sz f := by
  intro hn
  obtain ⟨b, off, e, hb, hc⟩ := h hn
  exact ⟨b, off, e, Nat.lt_of_lt_of_le hb k.size, fun i hi j hj => (k.cell (p := ⟨b, _, none⟩) hb).trans (hc i hi j hj)⟩
theorem Rd.zero {w : World} {A : Option Addr} {sz : Nat} {f : Nat → Nat → Value} : Rd w A 0 sz f := fun h => absurd h (by omega)
end Go.Proofs.Ytegplbjgoodokaa
