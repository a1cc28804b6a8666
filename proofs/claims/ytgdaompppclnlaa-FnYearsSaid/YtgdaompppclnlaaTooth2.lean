/- When two teeth are the same, and what is worn: contracts. -/
import Derived.Test.YtgdaompppclnlaaTooth
import Derived.Test.YtgdaompppclnlaaSame
namespace Go.Proofs.Ytgdaompppclnlaa
open Go.RowKit Ieee
set_option maxRecDepth 100000

/-- Two words of one value, made wide, are the same. -/
theorem wide_same {a b r s : Nat} (h : cn a = cn b) (hr : FV6 r (widen (cn a))) (hs : FV6 s (widen (cn b))) : cn6 r = cn6 s := by
  rw [hr.1, hs.1, h]

end Go.Proofs.Ytgdaompppclnlaa
