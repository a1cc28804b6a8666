/- A complex number made wide. -/
import Derived.Test.YtjjafaadjfahfaaDoorF6
namespace Go.Proofs.YtjjafaadjfahfaaDoor
open Go.RowKit Ieee
set_option maxRecDepth 100000
/-- A complex number made wide. -/
theorem run_convC {P : Program} (w : World) (src dst : TypeId) (a b : Nat) (hs : (P.underlying src).isSome = true) (hd : P.underlying dst = some (.complex .f64)) :
    ∃ r i n, (convert src dst (.complex .f32 a b)).run P w = .ok (.complex .f64 r i) (w.drewN n) ∧ FV6 r (widen (cn a)) ∧ FV6 i (widen (cn b)) := by
  obtain ⟨u, hs'⟩ := Option.isSome_iff_exists.1 hs
  have hrun : (convert src dst (.complex .f32 a b)).run P w = (Conv.complexToComplex .f32 a b .f64).run P w := by
    cases u <;> simp [convert, run_underlying hs', run_underlying hd]
  obtain ⟨r, n, h1, h2⟩ := f2f_run (P := P) w a
  obtain ⟨i, m, h3, h4⟩ := f2f_run (P := P) (w.drewN n) b
  refine ⟨r, i, n + m, ?_, by rw [widen_cn]; exact h2, by rw [widen_cn]; exact h4⟩
  rw [hrun]
  unfold Conv.complexToComplex
  simp only [Sem.run_bind, h1, Result.andThen_ok, h3, Sem.run_pure, World.drewN_drewN]
theorem relOp_convC {P : Program} {C : World → Prop} {D : Option Tmp → Value → Prop} {o : Oper} {a : Act} {K : Act → Prop} (hC : ∀ w n, C w → C (w.drewN n))
    {src dst : TypeId} {x : Operand} (ho : o.op = .convert src dst x) (hs : (P.underlying src).isSome = true) (hd : P.underlying dst = some (.complex .f64))
    {p q : Nat} (hx : a.eval x = .complex .f32 p q)
    (h : ∀ r i, FV6 r (widen (cn p)) → FV6 i (widen (cn q)) → K (a.put o.dst (.complex .f64 r i))) : relOp P C D o a K := by
  intro w hw
  obtain ⟨r, i, n, hr, hv, hi⟩ := run_convC (P := P) w src dst p q hs hd
  unfold execOp
  simp only [ho, hx, Sem.run_bind, hr, Result.andThen_ok, Sem.run_pure]
  exact ⟨hC w n hw, h r i hv hi⟩
theorem wpList_convC {P : Program} {ops : Array Oper} {rest : List Oper} {a : Act} {w : World} {Q : Exit → Act → World → Prop} {o : Oper} (hg : o.guard = none)
    {src dst : TypeId} {x : Operand} (ho : o.op = .convert src dst x) (hs : (P.underlying src).isSome = true) (hd : P.underlying dst = some (.complex .f64))
    {p q : Nat} (hx : a.eval x = .complex .f32 p q)
    (h : ∀ r i n, FV6 r (widen (cn p)) → FV6 i (widen (cn q)) → wpList P ops Q rest (a.put o.dst (.complex .f64 r i)) (w.drewN n)) : wpList P ops Q (o :: rest) a w := by
  refine wpList_plain hg fun K hK => ?_
  obtain ⟨r, i, n, hr, hv, hi⟩ := run_convC (P := P) w src dst p q hs hd
  have hh := hK _ _ (h r i n hv hi)
  unfold Oper.wp execOp
  simp only [ho, hx, Sem.run_bind, hr, Result.andThen_ok, Sem.run_pure, Oper.upon]
  exact hh
end Go.Proofs.YtjjafaadjfahfaaDoor
