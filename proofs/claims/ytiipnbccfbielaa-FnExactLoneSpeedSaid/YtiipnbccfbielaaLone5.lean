/- The law FnExactLoneSpeed: the walk. -/
import Derived.Test.YtiipnbccfbielaaLone4
namespace Go.Proofs.Ytiipnbccfbielaa
open Go.RowKit Ieee
open Go.Proofs.YtiipnbccfbielaaW.PrintWords
set_option maxRecDepth 100000
attribute [local irreducible] wpRel

set_option maxHeartbeats 4000000 in
theorem law_loneSpeed (A : Option Addr) (c : Nat) (l : List (Nat × Nat)) (lc : l.length ≤ c) (lm : c ≤ maxLen) (_ : A = none → l.length = 0 ∧ c = 0) (p : Nat) (hp : p < 4294967296) (q : Nat) (hq : q < 4294967296) (w : World) (hA : Kd.C kD w A l.length l) :
    Calls Try.prog 9 #[.slice A l.length c, .float .f32 p, .float .f32 q] w fun e w' => e = .returned (.bool true) ∧ Below w.heap.size w w' := by
  have HA : Hid (Kd.C kD w A l.length l) := Lib.hid hA
  clear hA
  unfold maxLen at lm
  by_cases hm : l.length ≤ 1048576
  · have hspec := fun A c w h1 => lone_spec A c l p q w h1 hm hp hq
    have himpl := fun A c w h1 => lone_impl A c l p q w h1 hm hp hq
    generalize loneO l p q = o at hspec himpl
    obtain ⟨x, cd⟩ := o
    have HSp := Lib.hid hspec
    have HIm := Lib.hid himpl
    clear hspec himpl
    go_enter Try.func9, Try.ntmps9
    go_wp2_with (go_at_call 15; refine (szDiscS_le _ _ _ hm _).mono ?_; rintro e w' ⟨rfl, rfl⟩)
    go_at_call 17
    refine (toDiscS_any A c l _ HA.out lc hm).mono ?_
    rintro e w1 ⟨v1, rfl, hR1, hb1⟩
    obtain ⟨A1, c1, rfl, hc1, hC1⟩ := Kd.R_reads hR1
    have H1 := Lib.hid hC1
    clear hR1 hC1
    go_wp2_with fail
    go_at_call 35
    refine (HSp.out A1 c1 _ H1.out).mono ?_
    rintro e w2 ⟨r, rfl, hr, hb2⟩
    have HR := Lib.hid hr
    have k2 := bstep hb1 hb2
    clear hr
    go_wp2_with fail
    go_at_call 17
    refine (toDiscS_any A c l _ (Kd.C_below HA.out k2) lc hm).mono ?_
    rintro e w3 ⟨v3, rfl, hR3, hb3⟩
    obtain ⟨A3, c3, rfl, hc3, hC3⟩ := Kd.R_reads hR3
    have H3 := Lib.hid hC3
    have k3 := bstep k2 hb3
    clear hR3 hC3
    go_wp2_with fail
    go_at_call 36
    refine (HIm.out A3 c3 _ H3.out).mono ?_
    rintro e w4 ⟨s, rfl, hs, hb4⟩
    have HS := Lib.hid hs
    have k4 := bstep k3 hb4
    clear hs
    go_wp2_with (first | (refine wpList_conv64 (o := ⟨some 36, _, _, _, _, _⟩) rfl rfl (by kernel_rfl) Try.underlying46 rfl ?_; intro r36 n36 h36) | (refine wpList_conv64 (o := ⟨some 38, _, _, _, _, _⟩) rfl rfl (by kernel_rfl) Try.underlying46 rfl ?_; intro r38 n38 h38) | (go_at_call 26; refine (sameFloat_any _ _ h36.2 (wide_same (HS.out.1.trans HR.out.1.symm) h36 h38) _).mono ?_; rintro e w' ⟨rfl, rfl⟩))
    go_at_call 17
    refine (toDiscS_any A c l _ (Kd.C_below HA.out (bdrewN k4 _)) lc hm).mono ?_
    rintro e w5 ⟨v5, rfl, hR5, hb5⟩
    obtain ⟨A5, c5, rfl, hc5, hC5⟩ := Kd.R_reads hR5
    have H5 := Lib.hid hC5
    have k5 := bstep (bdrewN k4 _) hb5
    have b35 := bstep (bdrewN hb4 _) hb5
    clear hR5 hC5
    go_wp2_with fail
    go_at_call 19
    refine (eqDiscS_any A3 A5 c3 c5 l _ (Kd.C_below H3.out b35) H5.out hm).mono ?_
    rintro e w6 ⟨rfl, hb6⟩
    go_wp2
    go_ret
    exact ⟨by simp, bstep k5 hb6⟩
  · have hn : l.length ≤ 9223372036854775807 := by omega
    go_enter Try.func9, Try.ntmps9
    go_wp2_with (go_at_call 15; refine (szDiscS_gt _ _ _ hm hn _).mono ?_; rintro e w' ⟨rfl, rfl⟩)
    go_ret
    exact ⟨rfl, Below.refl _ _⟩
end Go.Proofs.Ytiipnbccfbielaa
