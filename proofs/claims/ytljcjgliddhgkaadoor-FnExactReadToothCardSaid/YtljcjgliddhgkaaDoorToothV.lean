/- The text of a tooth or of none: the model's side. -/
import Derived.Test.YtljcjgliddhgkaaDoorToothU
namespace Go.Proofs.YtljcjgliddhgkaaDoor
open Go.RowKit Ieee
open Go.Proofs.YtljcjgliddhgkaaDoorW.PrintWords
set_option maxRecDepth 100000
attribute [local irreducible] wpRel hexL cn
def txV (h x y : Nat) (s : Int) : List UInt8 := if okTooth h x y s then txT h x y s else []
set_option maxHeartbeats 1000000 in
theorem toothText_spec (h x y : Nat) (s : Int) (h1 : h < 4294967296) (h2 : x < 4294967296) (h3 : y < 4294967296) (hsl : -128 ≤ s) (hsu : s ≤ 127) (w : World) :
    Calls Tryd.prog 6 #[.agg #[.float .f32 h, .float .f32 x, .float .f32 y, .int .i8 s]] w fun e w' => e = .returned (.string ⟨(txV h x y s).toArray⟩) ∧ Below w.heap.size w w' := by
  have HH := Lib.hid (And.intro h1 (And.intro h2 h3))
  clear h1 h2 h3
  cases hk : okTooth h x y s
  · go_enter Tryd.func6, Tryd.ntmps6
    go_wp2_with (go_at_call 25; refine (okTooth_spec _ _ _ _ hsl hsu _).mono ?_; rintro e w1 ⟨rfl, hb1⟩; have hc1 := bc hb1; have hf1 := bf hb1; have hs1 := hb1.size; (try simp at hs1); (try have hz10 : w.heap.size < w1.heap.size := by omega); (try have hz11 : w.heap.size + 1 < w1.heap.size := by omega); (try have hz12 : w.heap.size + 1 + 1 < w1.heap.size := by omega); (try have hz13 : w.heap.size + 1 + 1 + 1 < w1.heap.size := by omega))
    all_goals (go_ret; refine ⟨by simp [txV, hk], ?_⟩)
    all_goals (repeat (first | with_reducible exact Below.refl _ _ | with_reducible refine bset ?_ (by first | (simp; done) | (simp; omega) | omega) _ | with_reducible refine balloc ?_ _ | with_reducible refine bdrewN ?_ _ | with_reducible refine bdrew ?_ | with_reducible refine bstep ?_ (by assumption)))
  · have hs := ok_side hk
    go_enter Tryd.func6, Tryd.ntmps6
    go_wp2_with (first | (go_at_call 25; refine (okTooth_spec _ _ _ _ hsl hsu _).mono ?_; rintro e w1 ⟨rfl, hb1⟩; have hc1 := bc hb1; have hf1 := bf hb1; have hs1 := hb1.size; (try simp at hs1); (try have hz10 : w.heap.size < w1.heap.size := by omega); (try have hz11 : w.heap.size + 1 < w1.heap.size := by omega); (try have hz12 : w.heap.size + 1 + 1 < w1.heap.size := by omega); (try have hz13 : w.heap.size + 1 + 1 + 1 < w1.heap.size := by omega)) | (go_at_call 26; refine (l06Text_any _ _ _ _ HH.out.1 HH.out.2.1 HH.out.2.2 hs _).mono ?_; rintro e w2 ⟨rfl, hb2⟩; have hc2 := bc hb2; have hf2 := bf hb2; have hs2 := hb2.size; (try simp at hs2); (try have hz20 : w.heap.size < w2.heap.size := by omega); (try have hz21 : w.heap.size + 1 < w2.heap.size := by omega); (try have hz22 : w.heap.size + 1 + 1 < w2.heap.size := by omega); (try have hz23 : w.heap.size + 1 + 1 + 1 < w2.heap.size := by omega)))
    all_goals (go_ret; refine ⟨by simp [txV, hk], ?_⟩)
    all_goals (repeat (first | with_reducible exact Below.refl _ _ | with_reducible refine bset ?_ (by first | (simp; done) | (simp; omega) | omega) _ | with_reducible refine balloc ?_ _ | with_reducible refine bdrewN ?_ _ | with_reducible refine bdrew ?_ | with_reducible refine bstep ?_ (by assumption)))
end Go.Proofs.YtljcjgliddhgkaaDoor
