/- An append of one float in a region that draws its order. -/
import Derived.Test.YtgpmmpgbghjieaaAp
import Derived.Deep.RegionHeld3
import Derived.StillTactics
namespace Go.Proofs.Ytgpmmpgbghjieaa
open Go.RowKit Ieee
open Go.Proofs.YtgpmmpgbghjieaaW.PrintWords
set_option maxRecDepth 100000
section
variable {ops : Array Oper} {o : Oper} {a : Act} {Q : Exit → Act → World → Prop} {Kc : Act → World → Prop}
theorem apF_step {w0 W : World} (hw : Region.wanted o (yielded ops a.tmps) = true) (s x : Operand) (ho : o.op = .call { callee := .builtin .append, args := #[s, x], argTypes := #[26, 26] })
    (v : Value) (xs : List Nat) (p r : Nat) (hs : a.eval s = v) (hx : a.eval x = .slice (some ⟨W.heap.size, 0, none⟩) 1 1) (hp : FV r p)
    (HO : FR W w0.heap.size v xs) (HB : Below w0.heap.size w0 W) (hl : xs.length ≤ 1048576)
    (h : ∀ v1 w1, FR w1 w0.heap.size v1 (xs ++ [p]) → Below w0.heap.size w0 w1 → W.grownBy w1 v.ownBlock → (v1.ownBlock = v.ownBlock ∨ ∃ b, v1.ownBlock = some b ∧ W.heap.size ≤ b) → Kc (a.put o.dst v1) w1) :
    if Region.wanted o (yielded ops a.tmps) = true then Oper.wp Try.prog o a (W.alloc (.cells #[.float .f32 r] 41)) Kc Q else Kc (a.put o.dst undef) (W.alloc (.cells #[.float .f32 r] 41)) :=
  Kd.R_append_step kf (w0 := w0) w0.heap.size hw s x 26 41 (.float .f32 0) 4 ho Try.underlying26 info_f32 rfl (by decide) (by decide) v xs p [.float .f32 r] (fun _ => True) (fun _ => False) hs hx ⟨r, rfl, hp⟩ (fun _ h => h.elim) (fun _ _ => trivial) HO HB HB.size (by omega) h
end
end Go.Proofs.Ytgpmmpgbghjieaa
