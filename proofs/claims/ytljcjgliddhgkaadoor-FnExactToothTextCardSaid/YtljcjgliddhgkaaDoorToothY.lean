/- The text of a tooth or of none: the law. -/
import Derived.Test.YtljcjgliddhgkaaDoorToothX
namespace Go.Proofs.YtljcjgliddhgkaaDoor
open Go.RowKit Ieee
set_option maxRecDepth 100000
attribute [local irreducible] wpRel hexL cn
set_option maxHeartbeats 1000000 in
theorem law_toothText (h x y : Nat) (s : Int) (h1 : h < 4294967296) (h2 : x < 4294967296) (h3 : y < 4294967296) (hsl : -128 ≤ s) (hsu : s ≤ 127) (w : World) :
    Calls Tryd.prog 3 #[.agg #[.float .f32 h, .float .f32 x, .float .f32 y, .int .i8 s]] w fun e w' => e = .returned (.bool true) ∧ Below w.heap.size w w' := by
  have HH := Lib.hid (And.intro h1 (And.intro h2 h3))
  clear h1 h2 h3
  go_enter Tryd.func3, Tryd.ntmps3
  go_wp2_with (first | (go_at_call 7; refine (toTooth_any _ _ _ _ _).mono ?_; rintro e w1 ⟨rfl, hb1⟩; have hc1 := bc hb1; have hf1 := bf hb1; have hs1 := hb1.size; (try simp at hs1); (try have hz10 : w.heap.size < w1.heap.size := by omega); (try have hz11 : w.heap.size + 1 < w1.heap.size := by omega); (try have hz12 : w.heap.size + 1 + 1 < w1.heap.size := by omega); (try have hz13 : w.heap.size + 1 + 1 + 1 < w1.heap.size := by omega)) | (go_at_call 6; refine (toothText_spec _ _ _ _ HH.out.1 HH.out.2.1 HH.out.2.2 hsl hsu _).mono ?_; rintro e w2 ⟨rfl, hb2⟩; have hc2 := bc hb2; have hf2 := bf hb2; have hs2 := hb2.size; (try simp at hs2); (try have hz20 : w.heap.size < w2.heap.size := by omega); (try have hz21 : w.heap.size + 1 < w2.heap.size := by omega); (try have hz22 : w.heap.size + 1 + 1 < w2.heap.size := by omega); (try have hz23 : w.heap.size + 1 + 1 + 1 < w2.heap.size := by omega)) | (go_at_call 8; refine (toothText_impl _ _ _ _ HH.out.1 HH.out.2.1 HH.out.2.2 hsl hsu _).mono ?_; rintro e w3 ⟨rfl, hb3⟩; have hc3 := bc hb3; have hf3 := bf hb3; have hs3 := hb3.size; (try simp at hs3); (try have hz30 : w.heap.size < w3.heap.size := by omega); (try have hz31 : w.heap.size + 1 < w3.heap.size := by omega); (try have hz32 : w.heap.size + 1 + 1 < w3.heap.size := by omega); (try have hz33 : w.heap.size + 1 + 1 + 1 < w3.heap.size := by omega); (try have hy320 : w2.heap.size < w3.heap.size := by omega); (try have hy321 : w2.heap.size + 1 < w3.heap.size := by omega)))
  all_goals (go_ret; refine ⟨by simp_all, ?_⟩)
  all_goals (repeat (first | with_reducible exact Below.refl _ _ | with_reducible refine bset ?_ (by first | (simp; done) | (simp; omega) | omega) _ | with_reducible refine balloc ?_ _ | with_reducible refine bdrewN ?_ _ | with_reducible refine bdrew ?_ | with_reducible refine bstep ?_ (by assumption)))
end Go.Proofs.YtljcjgliddhgkaaDoor
