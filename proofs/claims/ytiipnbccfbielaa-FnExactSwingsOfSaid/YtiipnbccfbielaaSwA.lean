/- All swings: contracts of every order; eight complex numbers compared. -/
import Derived.Test.YtiipnbccfbielaaSwing2
import Derived.Test.YtiipnbccfbielaaSwing3
import Derived.Test.YtiipnbccfbielaaSwing2b
import Derived.Test.YtiipnbccfbielaaSwing3b
import Derived.Test.YtiipnbccfbielaaSwing4
import Derived.Test.YtiipnbccfbielaaSwing6
namespace Go.Proofs.Ytiipnbccfbielaa
open Go.RowKit Ieee
open Go.Proofs.YtiipnbccfbielaaW.PrintWords
set_option maxRecDepth 100000
attribute [local irreducible] wpRel

theorem run_store_c64 (P : Program) (w : World) (a : Addr) (m : Mode) (r i : Nat) : (store a (.complex .f32 r i) m).run P w = stored P w a (.complex .f32 r i) m := run_store P w a _ m rfl
attribute [go_sem] run_store_c64
/-- A complex number made wide. -/
theorem run_convC {P : Program} (w : World) (src dst : TypeId) (a b : Nat) (hs : (P.underlying src).isSome = true) (hd : P.underlying dst = some (.complex .f64)) :
    ∃ r i n, (convert src dst (.complex .f32 a b)).run P w = .ok (.complex .f64 r i) (w.drewN n) ∧ FV6 r (widen (cn a)) ∧ FV6 i (widen (cn b)) := by
  obtain ⟨u, hs'⟩ := Option.isSome_iff_exists.1 hs
  have hrun : (convert src dst (.complex .f32 a b)).run P w = (Conv.complexToComplex .f32 a b .f64).run P w := by
    cases u <;> simp [convert, run_underlying hs', run_underlying hd]
  obtain ⟨r, n, h1, h2⟩ := f2f_run (P := P) w a
  obtain ⟨i, m, h3, h4⟩ := f2f_run (P := P) (w.drewN n) b
  refine ⟨r, i, n + m, ?_, by rw [widen_cn]; exact h2, by rw [widen_cn]; exact h4⟩
  rw [hrun]
  unfold Conv.complexToComplex
  simp only [Sem.run_bind, h1, Result.andThen_ok, h3, Sem.run_pure, World.drewN_drewN]
theorem relOp_convC {P : Program} {C : World → Prop} {D : Option Tmp → Value → Prop} {o : Oper} {a : Act} {K : Act → Prop} (hC : ∀ w n, C w → C (w.drewN n))
    {src dst : TypeId} {x : Operand} (ho : o.op = .convert src dst x) (hs : (P.underlying src).isSome = true) (hd : P.underlying dst = some (.complex .f64))
    {p q : Nat} (hx : a.eval x = .complex .f32 p q)
    (h : ∀ r i, FV6 r (widen (cn p)) → FV6 i (widen (cn q)) → K (a.put o.dst (.complex .f64 r i))) : relOp P C D o a K := by
  intro w hw
  obtain ⟨r, i, n, hr, hv, hi⟩ := run_convC (P := P) w src dst p q hs hd
  unfold execOp
  simp only [ho, hx, Sem.run_bind, hr, Result.andThen_ok, Sem.run_pure]
  exact ⟨hC w n hw, h r i hv hi⟩
section
variable (y0 y1 y2 y3 y4 y5 y6 y7 : Nat)
theorem swing_impl_all (n : Nat) (hn : n < 8) (w : World) : Calls Try.prog 70 #[(.agg #[.float .f32 y0, .float .f32 y1, .float .f32 y2, .float .f32 y3, .float .f32 y4, .float .f32 y5, .float .f32 y6, .float .f32 y7]), .int .i64 (n : Int)] w (CQ (swi (f8 y0 y1 y2 y3 y4 y5 y6 y7) n 8).1 (swi (f8 y0 y1 y2 y3 y4 y5 y6 y7) n 8).2 w) := by
  have h : n = 0 ∨ n = 1 ∨ n = 2 ∨ n = 3 ∨ n = 4 ∨ n = 5 ∨ n = 6 ∨ n = 7 := by omega
  rcases h with rfl | rfl | rfl | rfl | rfl | rfl | rfl | rfl
  · exact swing_impl_0 y0 y1 y2 y3 y4 y5 y6 y7 w
  · exact swing_impl_1 y0 y1 y2 y3 y4 y5 y6 y7 w
  · exact swing_impl_2 y0 y1 y2 y3 y4 y5 y6 y7 w
  · exact swing_impl_3 y0 y1 y2 y3 y4 y5 y6 y7 w
  · exact swing_impl_4 y0 y1 y2 y3 y4 y5 y6 y7 w
  · exact swing_impl_5 y0 y1 y2 y3 y4 y5 y6 y7 w
  · exact swing_impl_6 y0 y1 y2 y3 y4 y5 y6 y7 w
  · exact swing_impl_7 y0 y1 y2 y3 y4 y5 y6 y7 w
end
end Go.Proofs.Ytiipnbccfbielaa
