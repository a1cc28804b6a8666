/- Rows of the call's own, of any kind without pointers: side by side, empty, marked. An append of one float in a region that draws its order. -/
import Derived.Test.YtggcajillncamaaAp
import Derived.Test.YtggcajillncamaaWMore
import Derived.Deep.RegionHeld3
import Derived.StillTactics
namespace Go.Proofs.Ytggcajillncamaa
open Go.RowKit Ieee
open Go.Proofs.YtggcajillncamaaW.PrintWords
set_option maxRecDepth 100000

/-- A row of a kind, of the call's own. -/
def RW {α : Type} (d : Kd α) (e : Nat) (w : World) (base : Nat) (v : Value) (xs : List α) : Prop := Kd.R d e w base (fun _ => True) v xs
section
variable {α β : Type} {d : Kd α} {d' : Kd β} {e e' : Nat} {w w1 : World} {base base' : Nat} {v v' : Value} {xs : List α} {ys : List β}
theorem RW.mk (h : Kd.R d e w base (fun _ => True) v xs) : RW d e w base v xs := h
theorem RW.out (h : RW d e w base v xs) : Kd.R d e w base (fun _ => True) v xs := h
theorem RW.ofF {xs : List Nat} (h : FR w base v xs) : RW kf 26 w base v xs := h
theorem RW.toF {xs : List Nat} (h : RW kf 26 w base v xs) : FR w base v xs := h
theorem RW.nil (d : Kd α) (e : Nat) (w : World) (base : Nat) : RW d e w base (.slice none 0 0) [] := Kd.R_nil _ _ _ _ _
theorem RW.empty (d : Kd α) (e base g : Nat) (h : w.heap[g]? = some (.cells #[] e (0, 0))) (hb : base ≤ g) : RW d e w base (.slice (some ⟨g, 0, none⟩) 0 0) [] :=
  ⟨fun _ _ => trivial, [], ⟨by simp, .inr ⟨g, 0, #[], rfl, hb, h, Nat.le_refl _, Nat.zero_le _, by simp, by simp⟩⟩, Reps.none _ _⟩
theorem RW.lt (h : RW d e w base v xs) : ∀ k, v.ownBlock = some k → k < w.heap.size := Kd.R_lt h
theorem RW.base_le (h : RW d e w base v xs) : ∀ k, v.ownBlock = some k → base ≤ k := Kd.R_base h
theorem RW.below (h : RW d e w base v xs) (hb : Below w.heap.size w w1) : RW d e w1 base v xs := Kd.R_below h hb
theorem RW.alloc (h : RW d e w base v xs) (o : Obj) : RW d e (w.alloc o) base v xs := h.below (balloc (Below.refl _ _) o)
theorem RW.drewN (h : RW d e w base v xs) (n : Nat) : RW d e (w.drewN n) base v xs := h.below (bdrewN (Below.refl _ _) n)
theorem RW.drew (h : RW d e w base v xs) : RW d e w.drew base v xs := h.below (bdrew (Below.refl _ _))
theorem RW.lower (h : RW d e w base v xs) (hb : base' ≤ base) : RW d e w base' v xs := Kd.R_lower h hb
theorem RW.reads (h : RW d e w base v xs) : ∃ A c, v = .slice A xs.length c ∧ xs.length ≤ c ∧ Kd.C d w A xs.length xs := Kd.R_reads h
theorem RW.grown (h : RW d e w base v xs) (hE : d.E = []) {row : Option Nat} (hg : w.grownBy w1 row) (hne : ∀ k, v.ownBlock = some k → some k ≠ row) : RW d e w1 base v xs :=
  Kd.R_grown2 h hE hg fun k hk he => hne k he.symm hk.symm
/-- Rows of two kinds of elements are two blocks. -/
theorem RW.ne_type (h : RW d e w base v xs) (h' : RW d' e' w base' v' ys) (hne : e ≠ e') : ∀ k, v.ownBlock = some k → some k ≠ v'.ownBlock := by
  intro k hk he
  obtain ⟨c1, e1⟩ := Kd.R_typed h k hk
  obtain ⟨c2, e2⟩ := Kd.R_typed h' k he.symm
  rw [e1] at e2
  injection e2 with e2
  injection e2 with _ e3
  exact hne e3
/-- A row that was there before another one was made. -/
theorem RW.ne_old (h : ∀ k, v.ownBlock = some k → k < base') (h' : RW d' e' w base' v' ys) : ∀ k, v.ownBlock = some k → some k ≠ v'.ownBlock := by
  intro k hk he
  have h1 := h k hk
  have h2 := h'.base_le k he.symm
  omega
end
end Go.Proofs.Ytggcajillncamaa
namespace Go.Proofs.Ytggcajillncamaa
open Go.RowKit Ieee
open Go.Proofs.YtggcajillncamaaW.PrintWords
set_option maxRecDepth 100000
section
variable {ops : Array Oper} {o : Oper} {a : Act} {Q : Exit → Act → World → Prop} {Kc : Act → World → Prop}
theorem apF_step {w0 W : World} (hw : Region.wanted o (yielded ops a.tmps) = true) (s x : Operand) (ho : o.op = .call { callee := .builtin .append, args := #[s, x], argTypes := #[28, 28] })
    (v : Value) (xs : List Nat) (p r : Nat) (hs : a.eval s = v) (hx : a.eval x = .slice (some ⟨W.heap.size, 0, none⟩) 1 1) (hp : FV r p)
    (HO : FR W w0.heap.size v xs) (HB : Below w0.heap.size w0 W) (hl : xs.length ≤ 1048576)
    (h : ∀ v1 w1, FR w1 w0.heap.size v1 (xs ++ [p]) → Below w0.heap.size w0 w1 → W.grownBy w1 v.ownBlock → (v1.ownBlock = v.ownBlock ∨ ∃ b, v1.ownBlock = some b ∧ W.heap.size ≤ b) → Kc (a.put o.dst v1) w1) :
    if Region.wanted o (yielded ops a.tmps) = true then Oper.wp Try.prog o a (W.alloc (.cells #[.float .f32 r] 26)) Kc Q else Kc (a.put o.dst undef) (W.alloc (.cells #[.float .f32 r] 26)) :=
  Kd.R_append_step kf (w0 := w0) w0.heap.size hw s x 28 26 (.float .f32 0) 4 ho Try.underlying28 info_f32 rfl (by decide) (by decide) v xs p [.float .f32 r] (fun _ => True) (fun _ => False) hs hx ⟨r, rfl, hp⟩ (fun _ h => h.elim) (fun _ _ => trivial) HO HB HB.size (by omega) h
end
end Go.Proofs.Ytggcajillncamaa
