/- The law FnExactStrongestSwing: the walk. -/
import Derived.Test.YtiipnbccfbielaaSwing5
import Derived.Test.YtiipnbccfbielaaSwing6
import Derived.Test.YtiipnbccfbielaaWide
namespace Go.Proofs.Ytiipnbccfbielaa
open Go.RowKit Ieee
open Go.Proofs.YtiipnbccfbielaaW.PrintWords
set_option maxRecDepth 100000
attribute [local irreducible] wpRel

set_option maxHeartbeats 4000000 in
theorem law_strongestSwing (y0 y1 y2 y3 y4 y5 y6 y7 : Nat) (l0 : y0 < 4294967296) (l1 : y1 < 4294967296) (l2 : y2 < 4294967296) (l3 : y3 < 4294967296) (l4 : y4 < 4294967296) (l5 : y5 < 4294967296) (l6 : y6 < 4294967296) (l7 : y7 < 4294967296) (w : World) :
    Calls Try.prog 6 #[(.agg #[.float .f32 y0, .float .f32 y1, .float .f32 y2, .float .f32 y3, .float .f32 y4, .float .f32 y5, .float .f32 y6, .float .f32 y7])] w fun e w' => e = .returned (.bool true) ∧ Below w.heap.size w w' := by
  have h1 := strongest_spec y0 y1 y2 y3 y4 y5 y6 y7 l0 l1 l2 l3 l4 l5 l6 l7
  have h2 := strongest_impl y0 y1 y2 y3 y4 y5 y6 y7 l0 l1 l2 l3 l4 l5 l6 l7
  generalize outST (f8 y0 y1 y2 y3 y4 y5 y6 y7) = o at h1 h2
  obtain ⟨o1, o2, o3⟩ := o
  have H1 := Lib.hid h1
  have H2 := Lib.hid h2
  have HA := Lib.hid (toA8_any y0 y1 y2 y3 y4 y5 y6 y7)
  clear h1 h2
  clear l0 l1 l2 l3 l4 l5 l6 l7
  go_enter Try.func6, Try.ntmps6
  go_wp2_with fail
  go_at_call 21
  refine (HA.out _).mono ?_
  rintro e w1 ⟨rfl, hb1⟩
  have hc1 := bc hb1; have hf1 := bf hb1; have hs1 := hb1.size; (try simp at hs1); (try have hz10 : w.heap.size < w1.heap.size := by omega); (try have hz11 : w.heap.size + 1 < w1.heap.size := by omega); (try have hz12 : w.heap.size + 1 + 1 < w1.heap.size := by omega); (try have hz13 : w.heap.size + 1 + 1 + 1 < w1.heap.size := by omega)
  go_wp2_with fail
  go_at_call 24
  refine (H1.out _).mono ?_
  rintro e w2 ⟨r, rfl, hr, hb2⟩
  have hc2 := bc hb2; have hf2 := bf hb2; have hs2 := hb2.size; (try simp at hs2); (try have hz20 : w.heap.size < w2.heap.size := by omega); (try have hz21 : w.heap.size + 1 < w2.heap.size := by omega); (try have hz22 : w.heap.size + 1 + 1 < w2.heap.size := by omega); (try have hz23 : w.heap.size + 1 + 1 + 1 < w2.heap.size := by omega)
  have HR := Lib.hid hr
  clear hr
  go_wp2_with fail
  go_at_call 21
  refine (HA.out _).mono ?_
  rintro e w3 ⟨rfl, hb3⟩
  have hc3 := bc hb3; have hf3 := bf hb3; have hs3 := hb3.size; (try simp at hs3); (try have hz30 : w.heap.size < w3.heap.size := by omega); (try have hz31 : w.heap.size + 1 < w3.heap.size := by omega); (try have hz32 : w.heap.size + 1 + 1 < w3.heap.size := by omega); (try have hz33 : w.heap.size + 1 + 1 + 1 < w3.heap.size := by omega); (try have hy320 : w2.heap.size < w3.heap.size := by omega); (try have hy321 : w2.heap.size + 1 < w3.heap.size := by omega)
  go_wp2_with fail
  go_at_call 25
  refine (H2.out _).mono ?_
  rintro e w4 ⟨s, rfl, hs, hb4⟩
  have hc4 := bc hb4; have hf4 := bf hb4; have hs4 := hb4.size; (try simp at hs4); (try have hz40 : w.heap.size < w4.heap.size := by omega); (try have hz41 : w.heap.size + 1 < w4.heap.size := by omega); (try have hz42 : w.heap.size + 1 + 1 < w4.heap.size := by omega); (try have hz43 : w.heap.size + 1 + 1 + 1 < w4.heap.size := by omega); (try have hy420 : w2.heap.size < w4.heap.size := by omega); (try have hy421 : w2.heap.size + 1 < w4.heap.size := by omega)
  have HS := Lib.hid hs
  clear hs
  go_wp2_with (first | (refine wpList_conv64g (o := ⟨some 28, _, _, _, _, _⟩) (by go_simp) rfl (by kernel_rfl) Try.underlying46 rfl ?_; intro r28 n28 h28) | (refine wpList_conv64g (o := ⟨some 30, _, _, _, _, _⟩) (by go_simp) rfl (by kernel_rfl) Try.underlying46 rfl ?_; intro r30 n30 h30) | (go_at_call 26; refine (sameFloat_any _ _ h28.2 (wide_same' (HS.out.1.trans HR.out.1.symm) h28 h30) _).mono ?_; rintro e w' ⟨rfl, rfl⟩))
  go_ret
  refine ⟨by simp, ?_⟩
  (repeat (first | with_reducible exact Below.refl _ _ | with_reducible refine bset ?_ (by first | (simp; done) | (simp; omega) | omega) _ | with_reducible refine balloc ?_ _ | with_reducible refine bdrewN ?_ _ | with_reducible refine bdrew ?_ | with_reducible refine bstep ?_ (by assumption)))
end Go.Proofs.Ytiipnbccfbielaa
