/- Appends of single floats to rows of the call's own; two rows side by side. -/
import Derived.Test.YtdekolkngokmpaaDoorFs
namespace Go.Proofs.YtdekolkngokmpaaDoor
open Go.RowKit Ieee
open Go.Proofs.YtdekolkngokmpaaDoorW.PrintWords
set_option maxRecDepth 100000

/-- A row of single floats of the call's own. -/
def FR (w : World) (base : Nat) (v : Value) (xs : List Nat) : Prop := Kd.R kf 0 w base (fun _ => True) v xs
theorem FR.mk {w : World} {base : Nat} {v : Value} {xs : List Nat} (h : Kd.R kf 0 w base (fun _ => True) v xs) : FR w base v xs := h
theorem FR.out {w : World} {base : Nat} {v : Value} {xs : List Nat} (h : FR w base v xs) : Kd.R kf 0 w base (fun _ => True) v xs := h
def NE (u v : Value) : Prop := ∀ k, u.ownBlock = some k → v.ownBlock ≠ some k
theorem NE.symm {u v : Value} (h : NE u v) : NE v u := fun k hk hu => h k hu hk
theorem FR.nil (w : World) (base : Nat) : FR w base (.slice none 0 0) [] := Kd.R_nil _ _ _ _ _
theorem NE.nil_left (v : Value) : NE (.slice none 0 0) v := fun k hk => by simp [Value.ownBlock] at hk
theorem FR.move {w w1 : World} {base : Nat} {v : Value} {xs : List Nat} (h : FR w base v xs) (hm : ∀ k, v.ownBlock = some k → w1.heap[k]? = w.heap[k]?) : FR w1 base v xs := by
  obtain ⟨h0, inner, ho, hr⟩ := h
  exact ⟨h0, inner, own_move ho hm, hr.imp_ fun _ _ hp => hp⟩
theorem FR.lt {w : World} {base : Nat} {v : Value} {xs : List Nat} (h : FR w base v xs) : ∀ k, v.ownBlock = some k → k < w.heap.size := Kd.R_lt h
theorem FR.base_le {w : World} {base : Nat} {v : Value} {xs : List Nat} (h : FR w base v xs) : ∀ k, v.ownBlock = some k → base ≤ k := Kd.R_base h
theorem FR.below {w w1 : World} {base : Nat} {v : Value} {xs : List Nat} (h : FR w base v xs) (hb : Below w.heap.size w w1) : FR w1 base v xs := h.move fun k hk => hb.block k (h.lt k hk)
theorem FR.alloc {w : World} {base : Nat} {v : Value} {xs : List Nat} (h : FR w base v xs) (o : Obj) : FR (w.alloc o) base v xs := h.below (balloc (Below.refl _ _) o)
theorem FR.drewN {w : World} {base : Nat} {v : Value} {xs : List Nat} (h : FR w base v xs) (n : Nat) : FR (w.drewN n) base v xs := h
theorem FR.drew {w : World} {base : Nat} {v : Value} {xs : List Nat} (h : FR w base v xs) : FR w.drew base v xs := h
theorem FR.grown {w w1 : World} {base : Nat} {v : Value} {xs : List Nat} {row : Option Nat} (h : FR w base v xs) (hg : w.grownBy w1 row) (hne : ∀ k, v.ownBlock = some k → some k ≠ row) : FR w1 base v xs :=
  h.move fun k hk => hg.block k (h.lt k hk) (hne k hk)
/-- An empty row that has been written out. -/
theorem FR.empty {w : World} (base g : Nat) (h : w.heap[g]? = some (.cells #[] 0 (0, 0))) (hb : base ≤ g) : FR w base (.slice (some ⟨g, 0, none⟩) 0 0) [] :=
  ⟨fun _ _ => trivial, [], ⟨rfl, .inr ⟨g, 0, #[], rfl, hb, h, Nat.le_refl _, Nat.zero_le _, rfl, rfl⟩⟩, Reps.none _ _⟩
theorem FR.lower {w : World} {base base' : Nat} {v : Value} {xs : List Nat} (h : FR w base v xs) (hb : base' ≤ base) : FR w base' v xs := Kd.R_lower h hb
theorem FR.reads {w : World} {base : Nat} {v : Value} {xs : List Nat} (h : FR w base v xs) : ∃ A c, v = .slice A xs.length c ∧ xs.length ≤ c ∧ Kd.C kf w A xs.length xs := Kd.R_reads h

section
variable {ops : Array Oper} {rest : List Oper} {o : Oper} {a : Act} {Q : Exit → Act → World → Prop}
end
end Go.Proofs.YtdekolkngokmpaaDoor
