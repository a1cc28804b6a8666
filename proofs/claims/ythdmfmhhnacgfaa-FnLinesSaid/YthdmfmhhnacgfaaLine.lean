/- Valid lines of discs: contracts and the law. -/
import Derived.Test.YthdmfmhhnacgfaaDisc
namespace Go.Proofs.Ythdmfmhhnacgfaa
open Go.RowKit Ieee
open Go.Proofs.YthdmfmhhnacgfaaW.PrintWords
set_option maxRecDepth 100000

theorem fle_vr {r x c : Nat} (h : FV r x) (hc : cn c = c) : fle c r = fle c x := by rw [← fle_cn c r, hc, h.1]
theorem fle_vl {r x c : Nat} (h : FV r x) (hc : cn c = c) : fle r c = fle x c := by rw [← fle_cn r c, hc, h.1]
theorem fin_v {r x a b : Nat} (h : FV r x) (ha : cn a = a) (hb : cn b = b) : fin a b r = fin a b x := by unfold fin; rw [fle_vr h ha, fle_vl h hb]

/-- Two words of one value, made wide, are the same. -/
theorem wide_same {a b r s : Nat} (h : cn a = cn b) (hr : FV6 r (widen (cn a))) (hs : FV6 s (widen (cn b))) : cn6 r = cn6 s := by
  rw [hr.1, hs.1, h]

end Go.Proofs.Ythdmfmhhnacgfaa
