/- Worlds that differ in one block and in new ones. -/
import Derived.Test.YtggcajillncamaaRow
import Derived.Maps.AppendAt
namespace Go.Proofs.Ytggcajillncamaa
open Go.RowKit Ieee
open Go.Proofs.YtggcajillncamaaW.PrintWords
set_option maxRecDepth 100000
attribute [local irreducible] wpRel

theorem RW.setOut {α : Type} {d : Kd α} {e : Nat} {w : World} {base : Nat} {v : Value} {xs : List α} (h : RW d e w base v xs) (hE : d.E = []) {b o : Nat} (hne : ∀ k, v.ownBlock = some k → k ≠ b) (u : Value) : RW d e (w.setCell ⟨b, o, none⟩ u) base v xs :=
  h.grown hE (row := some b) ⟨rfl, rfl, rfl, by simp, fun k _ hk => Below.heap_setCell w ⟨b, o, none⟩ u k (fun he => hk (by rw [he]))⟩ fun k hk he => hne k hk (by injection he)
@[go_sem high] theorem cell_alloc_drewN (w : World) (n : Nat) (o : Obj) (a : Addr) (h : a.block < w.heap.size) : ((w.drewN n).alloc o).cell? a = w.cell? a := World.cell?_alloc_lt (w.drewN n) o a h
@[go_sem high] theorem frozen_alloc_drewN (w : World) (n : Nat) (o : Obj) (b j : Nat) (h : b < w.heap.size) : ((w.drewN n).alloc o).frozen? ⟨b, j, none⟩ = w.frozen? ⟨b, j, none⟩ := bf (balloc (bdrewN (Below.refl w.heap.size w) n) o) b j h
/-- w' is w but for block g and new blocks. -/
def Gr (g : Nat) (w w' : World) : Prop := w.grownBy w' (some g)
theorem Gr.refl (g : Nat) (w : World) : Gr g w w := World.grownBy.refl w _
theorem Gr.size {g : Nat} {w w' : World} (h : Gr g w w') : w.heap.size ≤ w'.heap.size := World.grownBy.size h
theorem Gr.step {g : Nat} {w W W' : World} (h : Gr g w W) (k : Below W.heap.size W W') : Gr g w W' :=
  World.grownBy.trans h ⟨k.os, k.tape, k.output, k.size, fun j hj _ => k.block j hj⟩
theorem Gr.alloc {g : Nat} {w W : World} (h : Gr g w W) (o : Obj) : Gr g w (W.alloc o) := h.step (balloc (Below.refl _ _) o)
theorem Gr.drewN {g : Nat} {w W : World} (h : Gr g w W) (n : Nat) : Gr g w (W.drewN n) := h.step (bdrewN (Below.refl _ _) n)
theorem Gr.set {g : Nat} {w W : World} (h : Gr g w W) {b o : Nat} (hb : b = g ∨ w.heap.size ≤ b) (u : Value) : Gr g w (W.setCell ⟨b, o, none⟩ u) := by
  have h' : w.grownBy W (some g) := h
  refine ⟨h'.os, h'.tape, h'.output, Nat.le_trans h'.size (by simp), fun k hk hne => ?_⟩
  rw [Below.heap_setCell W ⟨b, o, none⟩ u k (fun he => by
    have he' : k = b := he
    rcases hb with rfl | hb
    · exact hne (by rw [he'])
    · omega)]
  exact h'.block k hk hne
theorem Gr.grown {g : Nat} {w W W' : World} (h : Gr g w W) {row : Option Nat} (hg : W.grownBy W' row) (hr : ∀ k, row = some k → k = g ∨ w.heap.size ≤ k) : Gr g w W' := by
  have h' : w.grownBy W (some g) := h
  refine ⟨hg.os.trans h'.os, hg.tape.trans h'.tape, hg.output.trans h'.output, Nat.le_trans h'.size hg.size, fun k hk hne => ?_⟩
  rw [hg.block k (Nat.lt_of_lt_of_le hk h'.size) (fun he => by
    rcases hr k he.symm with rfl | hb
    · exact hne rfl
    · omega)]
  exact h'.block k hk hne
theorem Gr.then {g : Nat} {w W W' : World} (h : Gr g w W) (k : Gr g W W') : Gr g w W' := World.grownBy.trans h k
/-- Below what is written. -/
theorem Gr.below {g : Nat} {w0 w W : World} (h : Below w0.heap.size w0 w) (k : Gr g w W) (hg : w0.heap.size ≤ g) : Below w0.heap.size w0 W :=
  h.grown k h.size fun j hj => by injection hj with hj; omega

end Go.Proofs.Ytggcajillncamaa
