/- Rows of teeth marked and held. -/
import Derived.Test.YtgdaompppclnlaaTeeth
import Derived.Test.YtgdaompppclnlaaRow
namespace Go.Proofs.Ytgdaompppclnlaa
open Go.RowKit Ieee
open Go.Proofs.YtgdaompppclnlaaW.PrintWords
set_option maxRecDepth 100000
attribute [local irreducible] wpRel

theorem b8 (e : Int) : i8B (IntKind.i8.wrap e) := by
  have := wf_wrap .i8 e
  simpa [i8B, Lit.wf, IntKind.min, IntKind.max, IntKind.signed, IntKind.bits] using this
def mkT1 (m : Int) (i : Nat) : Tth := (fi (m + 4 * (i : Int)), fi (m + 4 * (i : Int) + 1), fi (m + 4 * (i : Int) + 1 + 1), IntKind.i8.wrap (m + 4 * (i : Int) + 1 + 1 + 1))
/-- n marks from m on. -/
def mkT (m : Int) (n : Nat) : List Tth := (List.range n).map (mkT1 m)
theorem mkT_length (m : Int) (n : Nat) : (mkT m n).length = n := by simp [mkT]
theorem mkT_get (m : Int) {n i : Nat} (h : i < n) : (mkT m n)[i]? = some (mkT1 m i) := by simp [mkT, h]
theorem mkT_getD (m : Int) {n i : Nat} (h : i < n) : (mkT m n).getD i zT = mkT1 m i := by rw [List.getD_eq_getElem?_getD, mkT_get m h]; rfl

end Go.Proofs.Ytgdaompppclnlaa
