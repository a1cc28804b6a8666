/- Small laws for the walks: what stays behind a call that makes memory of its own, lists in memory, closing steps. -/
import Derived.Test.YthdmfmhhnacgfaaRun
import Derived.Handy
import Derived.Deep.DeepMust
import Derived.Laws.OwnMore
import Derived.Lib.Hide
namespace Go.Proofs.Ythdmfmhhnacgfaa
open Go.RowKit Ieee

theorem balloc {w W : World} (h : Below w.heap.size w W) (o : Obj) : Below w.heap.size w (W.alloc o) := h.alloc h.size o
theorem bdrewN {w W : World} {B : Nat} (h : Below B w W) (n : Nat) : Below B w (W.drewN n) := ⟨h.os, h.tape, h.output, h.size, h.block⟩
theorem bdrew {w W : World} {B : Nat} (h : Below B w W) : Below B w W.drew := h.drew
theorem bstep {w W W' : World} (h : Below w.heap.size w W) (k : Below W.heap.size W W') : Below w.heap.size w W' := h.trans (k.mono h.size)
theorem bset {w W : World} (h : Below w.heap.size w W) {p : Addr} (hp : w.heap.size ≤ p.block) (u : Value) : Below w.heap.size w (W.setCell p u) := h.setCell hp u
theorem bc {w W : World} (h : Below w.heap.size w W) : ∀ b o, b < w.heap.size → W.cell? ⟨b, o, none⟩ = w.cell? ⟨b, o, none⟩ := fun b o hb => h.cell (p := ⟨b, o, none⟩) hb
theorem bf {w W : World} (h : Below w.heap.size w W) : ∀ b o, b < w.heap.size → W.frozen? ⟨b, o, none⟩ = w.frozen? ⟨b, o, none⟩ := fun b o hb => h.frozen (p := ⟨b, o, none⟩) hb

/-- The values of several calls in a region, slot by slot. -/
def DAt (l : List (Nat × Value)) : Option Tmp → Value → Prop := fun d v => (d.bind fun k => l.lookup k) = some v
/-- The class of worlds that are as w was below its heap's size (a name that the walk does not open). -/
def Bel (w w' : World) : Prop := Below w.heap.size w w'
theorem Bel.mk {w w' : World} (h : Below w.heap.size w w') : Bel w w' := h
theorem Bel.out {w w' : World} (h : Bel w w') : Below w.heap.size w w' := h
theorem Bel.drewN {w w' : World} (h : Bel w w') (n : Nat) : Bel w (w'.drewN n) := bdrewN h n
theorem Bel.alloc {w w' : World} (h : Bel w w') (o : Obj) : Bel w (w'.alloc o) := balloc h o
theorem Bel.step {w w' w'' : World} (h : Bel w w') (k : Below w'.heap.size w' w'') : Bel w w'' := bstep h k
theorem Bel_closed (w0 : World) : ∀ w n, Bel w0 w → Bel w0 (w.drewN n) := fun _ n h => h.drewN n
/-- A region that draws, in the class of worlds that are as this one was below its heap's size. -/
theorem region_below {P : Program} {id : Nat} {Q : Exit → Act → World → Prop} {a : Act} {w : World} {l : List Oper} (D : Option Tmp → Value → Prop)
    (hm : P.follows .mixedOrders = true) (hB : Region.lexB .any l.toArray = true)
    (h : wpRel P l.toArray (Bel w) D (fun a' => ∀ w', Bel w w' → Q .normal a' w') l a) : (Code.region id l.toArray true).wp P Q a w :=
  wp_region_rel (Bel w) D hm hB ⟨rfl, rfl, rfl, Nat.le_refl _, fun _ _ => rfl⟩ h

/-- A slice's rows, read: row i has the cells f i 0, f i 1, .. -/
def Rd (w : World) (A : Option Addr) (n sz : Nat) (f : Nat → Nat → Value) : Prop :=
  0 < n → ∃ b off, A = some ⟨b, off, none⟩ ∧ b < w.heap.size ∧ ∀ i, i < n → ∀ j, j < sz → w.cell? ⟨b, off + i * sz + j, none⟩ = some (f i j)
theorem Rd.below {w W : World} {A : Option Addr} {n sz : Nat} {f : Nat → Nat → Value} (h : Rd w A n sz f) (k : Below w.heap.size w W) : Rd W A n sz f := by
  intro hn
  obtain ⟨b, off, e, hb, hc⟩ := h hn
  exact ⟨b, off, e, Nat.lt_of_lt_of_le hb k.size, fun i hi j hj => (k.cell (p := ⟨b, _, none⟩) hb).trans (hc i hi j hj)⟩
theorem Rd.zero {w : World} {A : Option Addr} {sz : Nat} {f : Nat → Nat → Value} : Rd w A 0 sz f := fun h => absurd h (by omega)
end Go.Proofs.Ythdmfmhhnacgfaa
