/- A widening behind a guard that holds. -/
import Derived.Test.YtiipnbccfbielaaKit
import Derived.Test.YtiipnbccfbielaaF6
namespace Go.Proofs.Ytiipnbccfbielaa
open Go.RowKit Ieee
set_option maxRecDepth 100000
attribute [local irreducible] wpRel

/-- A widening behind a guard that holds. -/
theorem wpList_conv64g {P : Program} {ops : Array Oper} {rest : List Oper} {a : Act} {w : World} {Q : Exit → Act → World → Prop} {o : Oper} (hw : Region.wanted o (yielded ops a.tmps) = true)
    {src dst : TypeId} {x : Operand} (ho : o.op = .convert src dst x) (hs : (P.underlying src).isSome = true) (hd : P.underlying dst = some (.float .f64))
    {b : Nat} (hx : a.eval x = .float .f32 b)
    (h : ∀ r n, FV6 r (widen (cn b)) → wpList P ops Q rest (a.put o.dst (.float .f64 r)) (w.drewN n)) : wpList P ops Q (o :: rest) a w := by
  refine wpList_step fun K hK => ?_
  rw [if_pos hw]
  obtain ⟨r, n, hr, hv⟩ := run_conv64 (P := P) w src dst b hs hd
  have hh := hK _ _ (h r n hv)
  unfold Oper.wp execOp
  simp only [ho, hx, Sem.run_bind, hr, Result.andThen_ok, Sem.run_pure, Oper.upon]
  exact hh
end Go.Proofs.Ytiipnbccfbielaa
