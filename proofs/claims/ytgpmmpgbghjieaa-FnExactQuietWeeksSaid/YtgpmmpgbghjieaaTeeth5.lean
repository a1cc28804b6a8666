/- The law FnExactPlaysOf: the walk. -/
import Derived.Test.YtgpmmpgbghjieaaTeeth3
import Derived.Test.YtgpmmpgbghjieaaTeeth4
import Derived.Test.YtgpmmpgbghjieaaMarkP
namespace Go.Proofs.Ytgpmmpgbghjieaa
open Go.RowKit Ieee
open Go.Proofs.YtgpmmpgbghjieaaW.PrintWords
set_option maxRecDepth 100000
attribute [local irreducible] wpRel

theorem eqRT_any {b b' : Nat} {u v : Value} {xs : List Tth} {w : World} (hu : RW kT 64 w b u xs) (hv : RW kT 64 w b' v xs) (hm : xs.length ≤ 1048576) :
    Calls Try.prog 16 #[u, v] w fun e w' => e = .returned (.bool true) ∧ Below w.heap.size w w' := by
  obtain ⟨A, c, rfl, _, hA⟩ := hu.reads
  obtain ⟨B, c', rfl, _, hB⟩ := hv.reads
  exact eqTeeth_any A B c c' xs w hA hB hm
theorem heldRT_any {b : Nat} {v : Value} {n : Nat} {m : Int} {w : World} (hv : RW kT 64 w b v (mkT m n)) (hm : n ≤ 1048576) (h0 : 0 ≤ m) (h1 : m ≤ 1000000000) :
    Calls Try.prog 27 #[v, .int .i64 m] w fun e w' => e = .returned (.int .i64 (m + 4 * n)) ∧ w = w' := by
  obtain ⟨A, c, rfl, _, hA⟩ := hv.reads
  rw [mkT_length] at hA ⊢
  exact heldTeeth_any A c n m w hA hm h0 h1
theorem ne_pt : (64 : Nat) ≠ 71 := by decide
theorem ne_fp : (41 : Nat) ≠ 71 := by decide
theorem ne_ft : (41 : Nat) ≠ 64 := by decide

set_option maxHeartbeats 8000000 in
theorem law_playsOf (A : Option Addr) (c : Nat) (t : List (Int × Int × Nat)) (lc : t.length ≤ c) (lm : c ≤ maxLen) (_ : A = none → t.length = 0 ∧ c = 0) (B : Option Addr) (c' : Nat) (ps : List Tth) (lc' : ps.length ≤ c') (lm' : c' ≤ maxLen) (_ : B = none → ps.length = 0 ∧ c' = 0) (w : World) (hA : Kd.C kP w A t.length t) (hB : Kd.C kT w B ps.length ps) :
    Calls Try.prog 3 #[.slice A t.length c, .slice B ps.length c'] w fun e w' => e = .returned (.bool true) ∧ Below w.heap.size w w' := by
  have HA : Hid (Kd.C kP w A t.length t) := Lib.hid hA
  have HB : Hid (Kd.C kT w B ps.length ps) := Lib.hid hB
  clear hA hB
  unfold maxLen at lm lm'
  by_cases hn : t.length ≤ 1048576
  · by_cases hmz : (ps.length : Int) ≤ 1048576 - (t.length : Int)
    · have hm : ps.length ≤ 1048576 := by omega
      have hspec := fun A B c c' w h1 h2 => playsOf_spec A B c c' t ps w h1 hn h2 hm
      have himpl := fun A B c c' w h1 h2 => playsOf_impl A B c c' t ps w h1 hn h2 hm
      have hlen := outPO_len t ps
      generalize outPO t ps = o at hspec himpl hlen
      obtain ⟨xs, cd⟩ := o
      have hx : xs.length ≤ 8 := hlen
      have HSp := Lib.hid hspec
      have HIm := Lib.hid himpl
      clear hspec himpl hlen
      go_enter Try.func3, Try.ntmps3
      go_wp2_with (first | (go_at_call 8; refine (szTrain_le _ _ _ _ (by omega) (by decide) _).mono ?_; rintro e w' ⟨rfl, rfl⟩) | (go_at_call 9; refine (szTooth_le _ _ _ _ (by omega) (by omega) _).mono ?_; rintro e w' ⟨rfl, rfl⟩))
      go_at_call 11
      refine (toTrain_any A c t _ HA.out lc hn).mono ?_
      rintro e w1 ⟨v1, rfl, hR1, hb1⟩
      obtain ⟨A1, c1, rfl, hc1, hC1⟩ := Kd.R_reads hR1
      have H1 := Lib.hid hC1
      clear hR1 hC1
      go_wp2_with fail
      go_at_call 12
      refine (toTeeth_any B c' ps _ (Kd.C_below HB.out hb1) lc' hm).mono ?_
      rintro e w2 ⟨v2, rfl, hR2, hb2⟩
      obtain ⟨B2, c2, rfl, hc2, hC2⟩ := Kd.R_reads hR2
      have H2 := Lib.hid hC2
      have k2 := bstep hb1 hb2
      clear hR2 hC2
      go_wp2_with fail
      go_at_call 10
      refine (HSp.out A1 B2 c1 c2 _ (Kd.C_below H1.out hb2) H2.out).mono ?_
      rintro e w3 ⟨s1, rfl, f1, hb3⟩
      have S1 : Hid (FR w3 w2.heap.size s1 xs) := Lib.hid f1
      have k3 := bstep k2 hb3
      clear f1
      -- the program
      go_wp2_with fail
      go_at_call 11
      refine (toTrain_any A c t _ (Kd.C_below HA.out k3) lc hn).mono ?_
      rintro e w4 ⟨v4, rfl, hR4, hb4⟩
      obtain ⟨A4, c4, hv4, hc4, hC4⟩ := Kd.R_reads hR4
      have R4 := Lib.hid (RW.mk hR4)
      have H4 := Lib.hid hC4
      have k4 := bstep k3 hb4
      subst hv4
      clear hR4 hC4
      go_wp2_with fail
      go_at_call 12
      refine (toTeeth_any B c' ps _ (Kd.C_below HB.out k4) lc' hm).mono ?_
      rintro e w5 ⟨v5, rfl, hR5, hb5⟩
      obtain ⟨B5, c5, hv5, hc5, hC5⟩ := Kd.R_reads hR5
      have F5 := Lib.hid (RW.mk hR5)
      have H5 := Lib.hid hC5
      have k5 := bstep k4 hb5
      subst hv5
      clear hR5 hC5
      go_wp2_with fail
      go_at_call 13
      refine (HIm.out A4 B5 c4 c5 _ (Kd.C_below H4.out hb5) H5.out).mono ?_
      rintro e w6 ⟨g1, rfl, f1, hb6⟩
      have G1 : Hid (FR w6 w5.heap.size g1 xs) := Lib.hid f1
      have k6 := bstep k5 hb6
      clear f1
      -- compared
      have b36 := bstep (bstep hb4 hb5) hb6
      have S1w6 := Lib.hid (S1.out.below b36)
      go_wp2_with fail
      go_at_call 14
      refine (eqFR_any G1.out S1w6.out (by omega)).mono ?_
      rintro e w7 ⟨rfl, hb7⟩
      have k7 := bstep k6 hb7
      -- the arguments are as they were
      go_wp2_with fail
      go_at_call 11
      refine (toTrain_any A c t _ (Kd.C_below HA.out k7) lc hn).mono ?_
      rintro e w8 ⟨v8, rfl, hR8, hb8⟩
      obtain ⟨A8, c8, rfl, hc8, hC8⟩ := Kd.R_reads hR8
      have H8 := Lib.hid hC8
      have k8 := bstep k7 hb8
      have b48 := bstep (bstep (bstep hb5 hb6) hb7) hb8
      clear hR8 hC8
      go_wp2_with fail
      go_at_call 15
      refine (eqTrain_any A4 A8 c4 c8 t _ (Kd.C_below H4.out b48) H8.out hn).mono ?_
      rintro e w9 ⟨rfl, hb9⟩
      have k9 := bstep k8 hb9
      go_wp2_with fail
      go_at_call 12
      refine (toTeeth_any B c' ps _ (Kd.C_below HB.out k9) lc' hm).mono ?_
      rintro e w10 ⟨v10, rfl, hR10, hb10⟩
      have F10 := Lib.hid (RW.mk hR10)
      have k10 := bstep k9 hb10
      have b59 := bstep (bstep (bstep hb6 hb7) hb8) hb9
      have b510 := bstep b59 hb10
      clear hR10
      go_wp2_with fail
      go_at_call 16
      refine (eqRT_any (F5.out.below b510) F10.out hm).mono ?_
      rintro e w11 ⟨rfl, hb11⟩
      have k11 := bstep k10 hb11
      have b511 := bstep b510 hb11
      have b411 := bstep hb5 b511
      have b611 := bstep (bstep (bstep (bstep hb7 hb8) hb9) hb10) hb11
      -- the arguments marked
      have R11 := Lib.hid (R4.out.below b411)
      have F11 := Lib.hid (F5.out.below b511)
      have G11 := Lib.hid (RW.ofF (G1.out.below b611))
      have S11 := Lib.hid (RW.ofF (S1w6.out.below b611))
      have hs3 : w.heap.size ≤ w3.heap.size := k3.size
      have hs4 : w3.heap.size ≤ w4.heap.size := hb4.size
      have hs5 : w4.heap.size ≤ w5.heap.size := hb5.size
      have lts : ∀ k, s1.ownBlock = some k → k < w3.heap.size := S1.out.lt
      have bsg : ∀ k, g1.ownBlock = some k → w5.heap.size ≤ k := G1.out.base_le
      have nsg : ∀ k, s1.ownBlock = some k → some k ≠ g1.ownBlock := fun k hk he => by have := lts k hk; have := bsg k he.symm; omega
      have bf0 : ∀ k, (Value.slice B5 ps.length c5).ownBlock = some k → w.heap.size ≤ k := fun k hk => by have := F5.out.base_le k hk; omega
      have bg0 : ∀ k, g1.ownBlock = some k → w.heap.size ≤ k := fun k hk => by have := bsg k hk; omega
      have N := Lib.hid (And.intro nsg (And.intro bf0 bg0))
      clear lts bsg nsg bf0 bg0 F10 S1 S1w6 G1 F5
      go_wp2_with fail
      go_at_call 17
      refine (markTrain_any _ t 1 _ _ R11.out hn (by decide) (by decide)).mono ?_
      rintro e w12 ⟨rfl, hg12⟩
      have G12 := Lib.hid (G11.out.grown rfl hg12 (G11.out.ne_type R11.out ne_fp))
      have S12 := Lib.hid (S11.out.grown rfl hg12 (S11.out.ne_type R11.out ne_fp))
      have F12 := Lib.hid (F11.out.grown rfl hg12 (F11.out.ne_type R11.out ne_pt))
      have k12 : Below w.heap.size w w12 := k11.grown hg12 k11.size (fun k hk => Nat.le_trans hs3 (R11.out.base_le k hk))
      clear G11 S11 F11
      go_wp2_with fail
      go_at_call 18
      refine (markTeeth_any _ ps _ _ _ F12.out hm (by omega) (by omega)).mono ?_
      rintro e w13 ⟨rfl, _, hg13⟩
      have G13 := Lib.hid (G12.out.grown rfl hg13 (G12.out.ne_type F12.out ne_ft)).toF
      have S13 := Lib.hid (S12.out.grown rfl hg13 (S12.out.ne_type F12.out ne_ft)).toF
      have k13 : Below w.heap.size w w13 := k12.grown hg13 k12.size N.out.2.1
      clear G12 S12 F12
      go_wp2_with fail
      go_at_call 14
      refine (eqFR_any G13.out S13.out (by omega)).mono ?_
      rintro e w14 ⟨rfl, hb14⟩
      have G14 := Lib.hid (G13.out.below hb14)
      have S14 := Lib.hid (S13.out.below hb14)
      have k14 := bstep k13 hb14
      clear G13 S13
      -- the result marked
      go_wp2_with fail
      go_at_call 19
      refine (markF_any g1 xs 1 _ _ G14.out (by omega) (by decide) (by decide)).mono ?_
      rintro e w15 ⟨rfl, f1, hg15⟩
      have G15 := Lib.hid (FR.mk f1)
      have S15 := Lib.hid (S14.out.grown hg15 N.out.1)
      have k15 : Below w.heap.size w w15 := k14.grown hg15 k14.size N.out.2.2
      clear f1 G14 S14
      go_wp2_with fail
      go_at_call 20
      refine (heldFR_any G15.out (by omega) (by decide) (by decide)).mono ?_
      rintro e w' ⟨rfl, rfl⟩
      -- once more
      go_wp2_with fail
      go_at_call 11
      refine (toTrain_any A c t _ (Kd.C_below HA.out k15) lc hn).mono ?_
      rintro e w16 ⟨v16, rfl, hR16, hb16⟩
      obtain ⟨A16, c16, rfl, hc16, hC16⟩ := Kd.R_reads hR16
      have H16 := Lib.hid hC16
      have k16 := bstep k15 hb16
      clear hR16 hC16
      go_wp2_with fail
      go_at_call 12
      refine (toTeeth_any B c' ps _ (Kd.C_below HB.out k16) lc' hm).mono ?_
      rintro e w17 ⟨v17, rfl, hR17, hb17⟩
      obtain ⟨B17, c17, rfl, hc17, hC17⟩ := Kd.R_reads hR17
      have H17 := Lib.hid hC17
      have k17 := bstep k16 hb17
      clear hR17 hC17
      go_wp2_with fail
      go_at_call 13
      refine (HIm.out A16 B17 c16 c17 _ (Kd.C_below H16.out hb17) H17.out).mono ?_
      rintro e w18 ⟨t1, rfl, f1, hb18⟩
      have T1 : Hid (FR w18 w17.heap.size t1 xs) := Lib.hid f1
      clear f1
      have k18 := bstep k17 hb18
      have b1518 := bstep (bstep hb16 hb17) hb18
      go_wp2_with fail
      go_at_call 14
      refine (eqFR_any T1.out (S15.out.below b1518) (by omega)).mono ?_
      rintro e w19 ⟨rfl, hb19⟩
      have b1519 := bstep b1518 hb19
      go_wp2_with fail
      go_at_call 20
      refine (heldFR_any (G15.out.below b1519) (by omega) (by decide) (by decide)).mono ?_
      rintro e w' ⟨rfl, rfl⟩
      go_wp2
      go_ret
      exact ⟨by simp, bstep k18 hb19⟩
    · go_enter Try.func3, Try.ntmps3
      go_wp2_with (first | (go_at_call 8; refine (szTrain_le _ _ _ _ (by omega) (by decide) _).mono ?_; rintro e w' ⟨rfl, rfl⟩) | (go_at_call 9; refine (szTooth_gt _ _ _ _ (by omega) (by omega) (by omega) (by omega) _).mono ?_; rintro e w' ⟨rfl, rfl⟩))
      go_ret
      exact ⟨rfl, Below.refl _ _⟩
  · go_enter Try.func3, Try.ntmps3
    go_wp2_with (go_at_call 8; refine (szTrain_gt _ _ _ _ (by omega) (by decide) (by decide) (by omega) _).mono ?_; rintro e w' ⟨rfl, rfl⟩)
    go_ret
    exact ⟨rfl, Below.refl _ _⟩
end Go.Proofs.Ytgpmmpgbghjieaa
