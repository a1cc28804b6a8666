/- Appends of single floats to rows of the call's own; two rows side by side. -/
import Derived.Test.YtggcajillncamaaFs
namespace Go.Proofs.Ytggcajillncamaa
open Go.RowKit Ieee
open Go.Proofs.YtggcajillncamaaW.PrintWords
set_option maxRecDepth 100000

/-- A row of single floats of the call's own. -/
def FR (w : World) (base : Nat) (v : Value) (xs : List Nat) : Prop := Kd.R kf 26 w base (fun _ => True) v xs
theorem FR.mk {w : World} {base : Nat} {v : Value} {xs : List Nat} (h : Kd.R kf 26 w base (fun _ => True) v xs) : FR w base v xs := h
theorem FR.out {w : World} {base : Nat} {v : Value} {xs : List Nat} (h : FR w base v xs) : Kd.R kf 26 w base (fun _ => True) v xs := h
def NE (u v : Value) : Prop := ∀ k, u.ownBlock = some k → v.ownBlock ≠ some k
theorem NE.symm {u v : Value} (h : NE u v) : NE v u := fun k hk hu => h k hu hk
theorem FR.nil (w : World) (base : Nat) : FR w base (.slice none 0 0) [] := Kd.R_nil _ _ _ _ _
theorem NE.nil_left (v : Value) : NE (.slice none 0 0) v := fun k hk => by simp [Value.ownBlock] at hk
theorem FR.move {w w1 : World} {base : Nat} {v : Value} {xs : List Nat} (h : FR w base v xs) (hm : ∀ k, v.ownBlock = some k → w1.heap[k]? = w.heap[k]?) : FR w1 base v xs := by
  obtain ⟨h0, inner, ho, hr⟩ := h
  exact ⟨h0, inner, own_move ho hm, hr.imp_ fun _ _ hp => hp⟩
theorem FR.lt {w : World} {base : Nat} {v : Value} {xs : List Nat} (h : FR w base v xs) : ∀ k, v.ownBlock = some k → k < w.heap.size := Kd.R_lt h
theorem FR.base_le {w : World} {base : Nat} {v : Value} {xs : List Nat} (h : FR w base v xs) : ∀ k, v.ownBlock = some k → base ≤ k := Kd.R_base h
theorem FR.below {w w1 : World} {base : Nat} {v : Value} {xs : List Nat} (h : FR w base v xs) (hb : Below w.heap.size w w1) : FR w1 base v xs := h.move fun k hk => hb.block k (h.lt k hk)
theorem FR.alloc {w : World} {base : Nat} {v : Value} {xs : List Nat} (h : FR w base v xs) (o : Obj) : FR (w.alloc o) base v xs := h.below (balloc (Below.refl _ _) o)
theorem FR.drewN {w : World} {base : Nat} {v : Value} {xs : List Nat} (h : FR w base v xs) (n : Nat) : FR (w.drewN n) base v xs := h
theorem FR.drew {w : World} {base : Nat} {v : Value} {xs : List Nat} (h : FR w base v xs) : FR w.drew base v xs := h
theorem FR.grown {w w1 : World} {base : Nat} {v : Value} {xs : List Nat} {row : Option Nat} (h : FR w base v xs) (hg : w.grownBy w1 row) (hne : ∀ k, v.ownBlock = some k → some k ≠ row) : FR w1 base v xs :=
  h.move fun k hk => hg.block k (h.lt k hk) (hne k hk)
/-- An empty row that has been written out. -/
theorem FR.empty {w : World} (base g : Nat) (h : w.heap[g]? = some (.cells #[] 26 (0, 0))) (hb : base ≤ g) : FR w base (.slice (some ⟨g, 0, none⟩) 0 0) [] :=
  ⟨fun _ _ => trivial, [], ⟨rfl, .inr ⟨g, 0, #[], rfl, hb, h, Nat.le_refl _, Nat.zero_le _, rfl, rfl⟩⟩, Reps.none _ _⟩
theorem FR.lower {w : World} {base base' : Nat} {v : Value} {xs : List Nat} (h : FR w base v xs) (hb : base' ≤ base) : FR w base' v xs := Kd.R_lower h hb
theorem FR.reads {w : World} {base : Nat} {v : Value} {xs : List Nat} (h : FR w base v xs) : ∃ A c, v = .slice A xs.length c ∧ xs.length ≤ c ∧ Kd.C kf w A xs.length xs := Kd.R_reads h

section
variable {ops : Array Oper} {rest : List Oper} {o : Oper} {a : Act} {Q : Exit → Act → World → Prop}
/-- append(v, x) of one float. -/
theorem apF {w0 W : World} (hgd : o.guard = none) (s x : Operand) (ho : o.op = .call { callee := .builtin .append, args := #[s, x], argTypes := #[28, 28] })
    (v : Value) (xs : List Nat) (p r : Nat) (hs : a.eval s = v) (hx : a.eval x = .slice (some ⟨W.heap.size, 0, none⟩) 1 1) (hp : FV r p)
    (HO : FR W w0.heap.size v xs) (HB : Below w0.heap.size w0 W) (hl : xs.length ≤ 1048576)
    (h : ∀ v1 w1, FR w1 w0.heap.size v1 (xs ++ [p]) → Below w0.heap.size w0 w1 → W.grownBy w1 v.ownBlock → (v1.ownBlock = v.ownBlock ∨ ∃ b, v1.ownBlock = some b ∧ W.heap.size ≤ b) → wpList Try.prog ops Q rest (a.put o.dst v1) w1) :
    wpList Try.prog ops Q (o :: rest) a (W.alloc (.cells #[.float .f32 r] 26)) :=
  Kd.R_append kf (w0 := w0) w0.heap.size hgd s x 28 26 (.float .f32 0) 4 ho Try.underlying28 info_f32 rfl (by decide) (by decide) v xs p [.float .f32 r] (fun _ => True) (fun _ => False) hs hx ⟨r, rfl, hp⟩ (fun _ h => h.elim) (fun _ _ => trivial) HO HB HB.size (by omega) h
/-- append(v, x) of one float, beside a row u. -/
theorem apF2 {w0 W : World} (hgd : o.guard = none) (s x : Operand) (ho : o.op = .call { callee := .builtin .append, args := #[s, x], argTypes := #[28, 28] })
    (v u : Value) (xs ys : List Nat) (p r : Nat) (hs : a.eval s = v) (hx : a.eval x = .slice (some ⟨W.heap.size, 0, none⟩) 1 1) (hp : FV r p)
    (HO : FR W w0.heap.size v xs) (HU : FR W w0.heap.size u ys) (ne : NE u v) (HB : Below w0.heap.size w0 W) (hl : xs.length ≤ 1048576)
    (h : ∀ v1 w1, FR w1 w0.heap.size v1 (xs ++ [p]) → FR w1 w0.heap.size u ys → NE u v1 → Below w0.heap.size w0 w1 → wpList Try.prog ops Q rest (a.put o.dst v1) w1) :
    wpList Try.prog ops Q (o :: rest) a (W.alloc (.cells #[.float .f32 r] 26)) :=
  apF hgd s x ho v xs p r hs hx hp HO HB hl fun v1 w1 h1 hb hg hat => h v1 w1 h1 (HU.grown hg fun k hk he => ne k hk he.symm)
    (fun k hk he => by
      rcases hat with hat | ⟨b, hb1, hb2⟩
      · rw [hat] at he; exact ne k hk he
      · rw [hb1] at he; injection he with he; have := HU.lt k hk; omega) hb
end
end Go.Proofs.Ytggcajillncamaa
