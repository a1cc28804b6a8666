/- The law FnExactYearOf: the walk. -/
import Derived.Test.YtgpmmpgbghjieaaWeekOf2
import Derived.Test.YtgpmmpgbghjieaaTeeth5
namespace Go.Proofs.Ytgpmmpgbghjieaa
open Go.RowKit Ieee
open Go.Proofs.YtgpmmpgbghjieaaW.PrintWords
set_option maxRecDepth 100000
attribute [local irreducible] wpRel

set_option maxHeartbeats 16000000 in
theorem law_yearOf (A : Option Addr) (c : Nat) (t : List (Int × Int × Nat)) (lc : t.length ≤ c) (lm : c ≤ maxLen) (_ : A = none → t.length = 0 ∧ c = 0) (B : Option Addr) (c' : Nat) (ps : List Tth) (lc' : ps.length ≤ c') (lm' : c' ≤ maxLen) (_ : B = none → ps.length = 0 ∧ c' = 0) (D : Option Addr) (d : Nat) (xs : List Nat) (ld : xs.length ≤ d) (lmd : d ≤ maxLen) (_ : D = none → xs.length = 0 ∧ d = 0) (q0 : Nat) (hq0 : q0 < 4294967296) (w : World) (hA : Kd.C kP w A t.length t) (hB : Kd.C kT w B ps.length ps) (hD : Kd.C kf w D xs.length xs) :
    Calls Try.prog 6 #[.slice A t.length c, .slice B ps.length c', .slice D xs.length d, .float .f32 q0] w fun e w' => e = .returned (.bool true) ∧ Below w.heap.size w w' := by
  have HA : Hid (Kd.C kP w A t.length t) := Lib.hid hA
  have HB : Hid (Kd.C kT w B ps.length ps) := Lib.hid hB
  have HD : Hid (Kd.C kf w D xs.length xs) := Lib.hid hD
  clear hA hB hD
  unfold maxLen at lm lm' lmd
  by_cases hd : xs.length ≤ 1048576
  · by_cases hn : t.length ≤ 1048576
    · by_cases hmz : (ps.length : Int) ≤ 1048576 - (t.length : Int)
      · have hm : ps.length ≤ 1048576 := by omega
        have hspec := fun A B D c c' d w h1 h2 h3 => year_spec A B D c c' d t ps xs q0 (cn q0) ⟨rfl, hq0⟩ w h1 hn h2 hm h3 hd
        have himpl := fun A B D c c' d w h1 h2 h3 => year_impl A B D c c' d t ps xs q0 (cn q0) ⟨rfl, hq0⟩ w h1 hn h2 hm h3 hd
        have hlen := outY_len t ps xs (cn q0)
        generalize outY t ps xs (cn q0) = o at hspec himpl hlen
        obtain ⟨ys, cs, cd⟩ := o
        have hy : ys.length ≤ 8 := hlen.1
        have hc : cs.length ≤ 832 := hlen.2
        have HSp := Lib.hid hspec
        have HIm := Lib.hid himpl
        clear hspec himpl hlen hq0
        go_enter Try.func6, Try.ntmps6
        go_wp2_with (first | (go_at_call 8; refine (szTrain_le _ _ _ _ (by omega) (by decide) _).mono ?_; rintro e w' ⟨rfl, rfl⟩) | (go_at_call 9; refine (szTooth_le _ _ _ _ (by omega) (by omega) _).mono ?_; rintro e w' ⟨rfl, rfl⟩))
        go_at_call 11
        refine (toTrain_any A c t _ HA.out lc hn).mono ?_
        rintro e w1a ⟨v1a, rfl, hR1a, hb1a⟩
        have k_1 := hb1a
        obtain ⟨A1, c1, hv1a, hc1a, hC1a⟩ := Kd.R_reads hR1a
        subst hv1a
        have HC1a := Lib.hid hC1a
        clear hR1a hC1a
        go_wp2_with fail
        go_at_call 12
        refine (toTeeth_any B c' ps _ (Kd.C_below HB.out k_1) lc' hm).mono ?_
        rintro e w1b ⟨v1b, rfl, hR1b, hb1b⟩
        have k_2 := bstep k_1 hb1b
        obtain ⟨B1, d1, hv1b, hc1b, hC1b⟩ := Kd.R_reads hR1b
        subst hv1b
        have HC1b := Lib.hid hC1b
        clear hR1b hC1b
        go_wp2_with fail
        go_at_call 30
        refine (toF_any D d xs _ (Kd.C_below HD.out k_2) hd).mono ?_
        rintro e w1c ⟨v1c, rfl, hR1c, hb1c⟩
        have k_3 := bstep k_2 hb1c
        obtain ⟨D1, e1, hv1c, hc1c, hC1c⟩ := hR1c.reads
        subst hv1c
        have HC1c := Lib.hid hC1c
        clear hR1c hC1c
        go_wp2_with fail
        go_at_call 29
        refine (HSp.out A1 B1 D1 c1 d1 e1 _ (Kd.C_below HC1a.out (bstep hb1b hb1c)) (Kd.C_below HC1b.out hb1c) HC1c.out).mono ?_
        rintro e w1d ⟨u1, v1, rfl, f1, g1, hb1d⟩
        have k_4 := bstep k_3 hb1d
        clear HC1a HC1b HC1c
        have S0_1 := Lib.hid (f1)
        have S1_1 := Lib.hid (g1)
        clear f1 g1
        have lS0 := S0_1.out.lt
        have lS1 := S1_1.out.lt
        go_wp2_with fail
        go_at_call 11
        refine (toTrain_any A c t _ (Kd.C_below HA.out k_4) lc hn).mono ?_
        rintro e w2a ⟨v2a, rfl, hR2a, hb2a⟩
        have S0_2 := Lib.hid (S0_1.out.below hb2a)
        have S1_2 := Lib.hid (S1_1.out.below hb2a)
        have k_5 := bstep k_4 hb2a
        clear S0_1 S1_1
        obtain ⟨A2, c2, hv2a, hc2a, hC2a⟩ := Kd.R_reads hR2a
        subst hv2a
        have X0_1 := Lib.hid (RW.mk hR2a)
        have HC2a := Lib.hid hC2a
        clear hR2a hC2a
        go_wp2_with fail
        go_at_call 12
        refine (toTeeth_any B c' ps _ (Kd.C_below HB.out k_5) lc' hm).mono ?_
        rintro e w2b ⟨v2b, rfl, hR2b, hb2b⟩
        have S0_3 := Lib.hid (S0_2.out.below hb2b)
        have S1_3 := Lib.hid (S1_2.out.below hb2b)
        have X0_2 := Lib.hid (X0_1.out.below hb2b)
        have k_6 := bstep k_5 hb2b
        clear S0_2 S1_2 X0_1
        obtain ⟨B2, d2, hv2b, hc2b, hC2b⟩ := Kd.R_reads hR2b
        subst hv2b
        have X1_1 := Lib.hid (RW.mk hR2b)
        have HC2b := Lib.hid hC2b
        clear hR2b hC2b
        go_wp2_with fail
        go_at_call 30
        refine (toF_any D d xs _ (Kd.C_below HD.out k_6) hd).mono ?_
        rintro e w2c ⟨v2c, rfl, hR2c, hb2c⟩
        have S0_4 := Lib.hid (S0_3.out.below hb2c)
        have S1_4 := Lib.hid (S1_3.out.below hb2c)
        have X0_3 := Lib.hid (X0_2.out.below hb2c)
        have X1_2 := Lib.hid (X1_1.out.below hb2c)
        have k_7 := bstep k_6 hb2c
        clear S0_3 S1_3 X0_2 X1_1
        obtain ⟨D2, e2, hv2c, hc2c, hC2c⟩ := hR2c.reads
        subst hv2c
        have X2_1 := Lib.hid (RW.ofF hR2c)
        have HC2c := Lib.hid hC2c
        clear hR2c hC2c
        have lX1 : ∀ j, (Value.slice B2 ps.length d2).ownBlock = some j → j < w2c.heap.size := X1_2.out.lt
        go_wp2_with fail
        go_at_call 31
        refine (HIm.out A2 B2 D2 c2 d2 e2 _ (Kd.C_below HC2a.out (bstep hb2b hb2c)) (Kd.C_below HC2b.out hb2c) HC2c.out).mono ?_
        rintro e w2d ⟨u2, v2, rfl, f2, g2, hb2d⟩
        have S0_5 := Lib.hid (S0_4.out.below hb2d)
        have S1_5 := Lib.hid (S1_4.out.below hb2d)
        have X0_4 := Lib.hid (X0_3.out.below hb2d)
        have X1_3 := Lib.hid (X1_2.out.below hb2d)
        have X2_2 := Lib.hid (X2_1.out.below hb2d)
        have k_8 := bstep k_7 hb2d
        clear S0_4 S1_4 X0_3 X1_2 X2_1
        clear HC2a HC2b HC2c
        have G0_1 := Lib.hid (f2)
        have G1_1 := Lib.hid (g2)
        clear f2 g2
        have hs1 : w1d.heap.size ≤ w2a.heap.size := hb2a.size
        have hs2 : w2a.heap.size ≤ w2b.heap.size := hb2b.size
        have hs3 : w2b.heap.size ≤ w2c.heap.size := hb2c.size
        have bX1 := X1_3.out.base_le
        have bG0 := G0_1.out.base_le
        have bG1 := G1_1.out.base_le
        have N := Lib.hid (show (∀ j, u1.ownBlock = some j → some j ≠ (Value.slice B2 ps.length d2).ownBlock) ∧ (∀ j, u1.ownBlock = some j → some j ≠ u2.ownBlock) ∧ (∀ j, u2.ownBlock = some j → some j ≠ (Value.slice B2 ps.length d2).ownBlock) ∧ (∀ j, v1.ownBlock = some j → some j ≠ v2.ownBlock) from ⟨fun j hj he => by have h1 := lS0 j hj; have h2 := bX1 j he.symm; omega, fun j hj he => by have h1 := lS0 j hj; have h2 := bG0 j he.symm; omega, fun j hj he => by have h1 := lX1 j he.symm; have h2 := bG0 j hj; omega, fun j hj he => by have h1 := lS1 j hj; have h2 := bG1 j he.symm; omega⟩)
        have h0w : w.heap.size ≤ w1d.heap.size := by have := hb1a.size; have := hb1b.size; have := hb1d.size; have := hb1c.size; omega
        have BX0 := Lib.hid (fun j hj => by have h1 := X0_4.out.base_le j hj; have h2 : w.heap.size ≤ _ := h0w; omega : ∀ j, (Value.slice A2 t.length c2).ownBlock = some j → w.heap.size ≤ j)
        have BX1 := Lib.hid (fun j hj => by have h1 := X1_3.out.base_le j hj; have h2 : w.heap.size ≤ _ := h0w; omega : ∀ j, (Value.slice B2 ps.length d2).ownBlock = some j → w.heap.size ≤ j)
        have BX2 := Lib.hid (fun j hj => by have h1 := X2_2.out.base_le j hj; have h2 : w.heap.size ≤ _ := h0w; omega : ∀ j, (Value.slice D2 xs.length e2).ownBlock = some j → w.heap.size ≤ j)
        have BG0 := Lib.hid (fun j hj => by have h1 := G0_1.out.base_le j hj; have h2 : w.heap.size ≤ _ := h0w; omega : ∀ j, u2.ownBlock = some j → w.heap.size ≤ j)
        have BG1 := Lib.hid (fun j hj => by have h1 := G1_1.out.base_le j hj; have h2 : w.heap.size ≤ _ := h0w; omega : ∀ j, v2.ownBlock = some j → w.heap.size ≤ j)
        clear lS0 lS1 lX1 bX1 bG0 bG1 hs1 hs2 h0w hs3
        go_wp2_with fail
        go_at_call 16
        refine (eqRT_any G0_1.out S0_5.out (by omega)).mono ?_
        rintro e w3 ⟨rfl, hb3⟩
        have S0_6 := Lib.hid (S0_5.out.below hb3)
        have S1_6 := Lib.hid (S1_5.out.below hb3)
        have X0_5 := Lib.hid (X0_4.out.below hb3)
        have X1_4 := Lib.hid (X1_3.out.below hb3)
        have X2_3 := Lib.hid (X2_2.out.below hb3)
        have G0_2 := Lib.hid (G0_1.out.below hb3)
        have G1_2 := Lib.hid (G1_1.out.below hb3)
        have k_9 := bstep k_8 hb3
        clear S0_5 S1_5 X0_4 X1_3 X2_2 G0_1 G1_1
        go_wp2_with fail
        go_at_call 25
        refine (eqRC_any G1_2.out S1_6.out (by omega)).mono ?_
        rintro e w4 ⟨rfl, hb4⟩
        have S0_7 := Lib.hid (S0_6.out.below hb4)
        have S1_7 := Lib.hid (S1_6.out.below hb4)
        have X0_6 := Lib.hid (X0_5.out.below hb4)
        have X1_5 := Lib.hid (X1_4.out.below hb4)
        have X2_4 := Lib.hid (X2_3.out.below hb4)
        have G0_3 := Lib.hid (G0_2.out.below hb4)
        have G1_3 := Lib.hid (G1_2.out.below hb4)
        have k_10 := bstep k_9 hb4
        clear S0_6 S1_6 X0_5 X1_4 X2_3 G0_2 G1_2
        go_wp2_with fail
        go_at_call 11
        refine (toTrain_any A c t _ (Kd.C_below HA.out k_10) lc hn).mono ?_
        rintro e w5 ⟨v5, rfl, hR5, hb5⟩
        have S0_8 := Lib.hid (S0_7.out.below hb5)
        have S1_8 := Lib.hid (S1_7.out.below hb5)
        have X0_7 := Lib.hid (X0_6.out.below hb5)
        have X1_6 := Lib.hid (X1_5.out.below hb5)
        have X2_5 := Lib.hid (X2_4.out.below hb5)
        have G0_4 := Lib.hid (G0_3.out.below hb5)
        have G1_4 := Lib.hid (G1_3.out.below hb5)
        have k_11 := bstep k_10 hb5
        clear S0_7 S1_7 X0_6 X1_5 X2_4 G0_3 G1_3
        have T5 := Lib.hid (RW.mk hR5)
        clear hR5
        go_wp2_with fail
        go_at_call 15
        refine (eqRP_any X0_7.out T5.out hn).mono ?_
        rintro e w6 ⟨rfl, hb6⟩
        have S0_9 := Lib.hid (S0_8.out.below hb6)
        have S1_9 := Lib.hid (S1_8.out.below hb6)
        have X0_8 := Lib.hid (X0_7.out.below hb6)
        have X1_7 := Lib.hid (X1_6.out.below hb6)
        have X2_6 := Lib.hid (X2_5.out.below hb6)
        have G0_5 := Lib.hid (G0_4.out.below hb6)
        have G1_5 := Lib.hid (G1_4.out.below hb6)
        have k_12 := bstep k_11 hb6
        clear S0_8 S1_8 X0_7 X1_6 X2_5 G0_4 G1_4
        clear T5
        go_wp2_with fail
        go_at_call 12
        refine (toTeeth_any B c' ps _ (Kd.C_below HB.out k_12) lc' hm).mono ?_
        rintro e w7 ⟨v7, rfl, hR7, hb7⟩
        have S0_10 := Lib.hid (S0_9.out.below hb7)
        have S1_10 := Lib.hid (S1_9.out.below hb7)
        have X0_9 := Lib.hid (X0_8.out.below hb7)
        have X1_8 := Lib.hid (X1_7.out.below hb7)
        have X2_7 := Lib.hid (X2_6.out.below hb7)
        have G0_6 := Lib.hid (G0_5.out.below hb7)
        have G1_6 := Lib.hid (G1_5.out.below hb7)
        have k_13 := bstep k_12 hb7
        clear S0_9 S1_9 X0_8 X1_7 X2_6 G0_5 G1_5
        have T7 := Lib.hid (RW.mk hR7)
        clear hR7
        go_wp2_with fail
        go_at_call 16
        refine (eqRT_any X1_8.out T7.out hm).mono ?_
        rintro e w8 ⟨rfl, hb8⟩
        have S0_11 := Lib.hid (S0_10.out.below hb8)
        have S1_11 := Lib.hid (S1_10.out.below hb8)
        have X0_10 := Lib.hid (X0_9.out.below hb8)
        have X1_9 := Lib.hid (X1_8.out.below hb8)
        have X2_8 := Lib.hid (X2_7.out.below hb8)
        have G0_7 := Lib.hid (G0_6.out.below hb8)
        have G1_7 := Lib.hid (G1_6.out.below hb8)
        have k_14 := bstep k_13 hb8
        clear S0_10 S1_10 X0_9 X1_8 X2_7 G0_6 G1_6
        clear T7
        go_wp2_with fail
        go_at_call 30
        refine (toF_any D d xs _ (Kd.C_below HD.out k_14) hd).mono ?_
        rintro e w9 ⟨v9, rfl, hR9, hb9⟩
        have S0_12 := Lib.hid (S0_11.out.below hb9)
        have S1_12 := Lib.hid (S1_11.out.below hb9)
        have X0_11 := Lib.hid (X0_10.out.below hb9)
        have X1_10 := Lib.hid (X1_9.out.below hb9)
        have X2_9 := Lib.hid (X2_8.out.below hb9)
        have G0_8 := Lib.hid (G0_7.out.below hb9)
        have G1_8 := Lib.hid (G1_7.out.below hb9)
        have k_15 := bstep k_14 hb9
        clear S0_11 S1_11 X0_10 X1_9 X2_8 G0_7 G1_7
        have T9 := Lib.hid (FR.mk hR9)
        clear hR9
        go_wp2_with fail
        go_at_call 14
        refine (eqFR_any X2_9.out.toF T9.out hd).mono ?_
        rintro e w10 ⟨rfl, hb10⟩
        have S0_13 := Lib.hid (S0_12.out.below hb10)
        have S1_13 := Lib.hid (S1_12.out.below hb10)
        have X0_12 := Lib.hid (X0_11.out.below hb10)
        have X1_11 := Lib.hid (X1_10.out.below hb10)
        have X2_10 := Lib.hid (X2_9.out.below hb10)
        have G0_9 := Lib.hid (G0_8.out.below hb10)
        have G1_9 := Lib.hid (G1_8.out.below hb10)
        have k_16 := bstep k_15 hb10
        clear S0_12 S1_12 X0_11 X1_10 X2_9 G0_8 G1_8
        clear T9
        go_wp2_with fail
        go_at_call 17
        refine (markTrain_any _ t 1 _ _ X0_12.out hn (by decide) (by decide)).mono ?_
        rintro e w11 ⟨rfl, hg11⟩
        have S0_14 := Lib.hid (S0_13.out.grown rfl hg11 (S0_13.out.ne_type X0_12.out ne_tp_))
        have S1_14 := Lib.hid (S1_13.out.grown rfl hg11 (S1_13.out.ne_type X0_12.out ne_cp_))
        have X1_12 := Lib.hid (X1_11.out.grown rfl hg11 (X1_11.out.ne_type X0_12.out ne_tp_))
        have X2_11 := Lib.hid (X2_10.out.grown rfl hg11 (X2_10.out.ne_type X0_12.out ne_fp_))
        have G0_10 := Lib.hid (G0_9.out.grown rfl hg11 (G0_9.out.ne_type X0_12.out ne_tp_))
        have G1_10 := Lib.hid (G1_9.out.grown rfl hg11 (G1_9.out.ne_type X0_12.out ne_cp_))
        have k_17 : Below w.heap.size w _ := k_16.grown hg11 k_16.size (BX0.out)
        clear S0_13 S1_13 X1_11 X2_10 G0_9 G1_9 X0_12
        go_wp2_with fail
        go_at_call 18
        refine (markTeeth_any _ ps _ _ _ X1_12.out hm (by omega) (by omega)).mono ?_
        rintro e w12 ⟨rfl, _, hg12⟩
        have S0_15 := Lib.hid (S0_14.out.grown rfl hg12 N.out.1)
        have S1_15 := Lib.hid (S1_14.out.grown rfl hg12 (S1_14.out.ne_type X1_12.out ne_ct_))
        have X2_12 := Lib.hid (X2_11.out.grown rfl hg12 (X2_11.out.ne_type X1_12.out ne_ft_))
        have G0_11 := Lib.hid (G0_10.out.grown rfl hg12 N.out.2.2.1)
        have G1_11 := Lib.hid (G1_10.out.grown rfl hg12 (G1_10.out.ne_type X1_12.out ne_ct_))
        have k_18 : Below w.heap.size w _ := k_17.grown hg12 k_17.size (BX1.out)
        clear S0_14 S1_14 X2_11 G0_10 G1_10 X1_12
        go_wp2_with fail
        go_at_call 19
        refine (markF_any _ xs _ _ _ X2_12.out hd (by omega) (by omega)).mono ?_
        rintro e w13 ⟨rfl, _, hg13⟩
        have S0_16 := Lib.hid (S0_15.out.grown rfl hg13 (S0_15.out.ne_type X2_12.out ne_tf_))
        have S1_16 := Lib.hid (S1_15.out.grown rfl hg13 (S1_15.out.ne_type X2_12.out ne_cf_))
        have G0_12 := Lib.hid (G0_11.out.grown rfl hg13 (G0_11.out.ne_type X2_12.out ne_tf_))
        have G1_12 := Lib.hid (G1_11.out.grown rfl hg13 (G1_11.out.ne_type X2_12.out ne_cf_))
        have k_19 : Below w.heap.size w _ := k_18.grown hg13 k_18.size (BX2.out)
        clear S0_15 S1_15 G0_11 G1_11 X2_12
        go_wp2_with fail
        go_at_call 16
        refine (eqRT_any G0_12.out S0_16.out (by omega)).mono ?_
        rintro e w14 ⟨rfl, hb14⟩
        have S0_17 := Lib.hid (S0_16.out.below hb14)
        have S1_17 := Lib.hid (S1_16.out.below hb14)
        have G0_13 := Lib.hid (G0_12.out.below hb14)
        have G1_13 := Lib.hid (G1_12.out.below hb14)
        have k_20 := bstep k_19 hb14
        clear S0_16 S1_16 G0_12 G1_12
        go_wp2_with fail
        go_at_call 25
        refine (eqRC_any G1_13.out S1_17.out (by omega)).mono ?_
        rintro e w15 ⟨rfl, hb15⟩
        have S0_18 := Lib.hid (S0_17.out.below hb15)
        have S1_18 := Lib.hid (S1_17.out.below hb15)
        have G0_14 := Lib.hid (G0_13.out.below hb15)
        have G1_14 := Lib.hid (G1_13.out.below hb15)
        have k_21 := bstep k_20 hb15
        clear S0_17 S1_17 G0_13 G1_13
        go_wp2_with fail
        go_at_call 18
        refine (markTeeth_any u2 ys 1 _ _ G0_14.out (by omega) (by decide) (by decide)).mono ?_
        rintro e w16 ⟨rfl, f16, hg16⟩
        have S0_19 := Lib.hid (S0_18.out.grown rfl hg16 N.out.2.1)
        have S1_19 := Lib.hid (S1_18.out.grown rfl hg16 (S1_18.out.ne_type G0_14.out ne_ct_))
        have G1_15 := Lib.hid (G1_14.out.grown rfl hg16 (G1_14.out.ne_type G0_14.out ne_ct_))
        have k_22 : Below w.heap.size w _ := k_21.grown hg16 k_21.size (BG0.out)
        have G0_15 := Lib.hid (f16)
        clear S0_18 S1_18 G1_14 G0_14
        clear f16
        go_wp2_with fail
        go_at_call 26
        refine (markChanges_any v2 cs _ _ _ G1_15.out (by omega) (by omega) (by omega)).mono ?_
        rintro e w17 ⟨rfl, f17, hg17⟩
        have S0_20 := Lib.hid (S0_19.out.grown rfl hg17 (S0_19.out.ne_type G1_15.out ne_tc_))
        have S1_20 := Lib.hid (S1_19.out.grown rfl hg17 N.out.2.2.2)
        have G0_16 := Lib.hid (G0_15.out.grown rfl hg17 (G0_15.out.ne_type G1_15.out ne_tc_))
        have k_23 : Below w.heap.size w _ := k_22.grown hg17 k_22.size (BG1.out)
        have G1_16 := Lib.hid (f17)
        clear S0_19 S1_19 G0_15 G1_15
        clear f17
        go_wp2_with fail
        go_at_call 27
        refine (heldRT_any G0_16.out (by omega) (by decide) (by decide)).mono ?_
        rintro e w' ⟨rfl, rfl⟩
        go_wp2_with fail
        go_at_call 28
        refine (heldRC_any G1_16.out (by omega) (by omega) (by omega)).mono ?_
        rintro e w' ⟨rfl, rfl⟩
        go_wp2_with fail
        go_at_call 11
        refine (toTrain_any A c t _ (Kd.C_below HA.out k_23) lc hn).mono ?_
        rintro e w3a ⟨v3a, rfl, hR3a, hb3a⟩
        have S0_21 := Lib.hid (S0_20.out.below hb3a)
        have S1_21 := Lib.hid (S1_20.out.below hb3a)
        have G0_17 := Lib.hid (G0_16.out.below hb3a)
        have G1_17 := Lib.hid (G1_16.out.below hb3a)
        have k_24 := bstep k_23 hb3a
        clear S0_20 S1_20 G0_16 G1_16
        obtain ⟨A3, c3, hv3a, hc3a, hC3a⟩ := Kd.R_reads hR3a
        subst hv3a
        have HC3a := Lib.hid hC3a
        clear hR3a hC3a
        go_wp2_with fail
        go_at_call 12
        refine (toTeeth_any B c' ps _ (Kd.C_below HB.out k_24) lc' hm).mono ?_
        rintro e w3b ⟨v3b, rfl, hR3b, hb3b⟩
        have S0_22 := Lib.hid (S0_21.out.below hb3b)
        have S1_22 := Lib.hid (S1_21.out.below hb3b)
        have G0_18 := Lib.hid (G0_17.out.below hb3b)
        have G1_18 := Lib.hid (G1_17.out.below hb3b)
        have k_25 := bstep k_24 hb3b
        clear S0_21 S1_21 G0_17 G1_17
        obtain ⟨B3, d3, hv3b, hc3b, hC3b⟩ := Kd.R_reads hR3b
        subst hv3b
        have HC3b := Lib.hid hC3b
        clear hR3b hC3b
        go_wp2_with fail
        go_at_call 30
        refine (toF_any D d xs _ (Kd.C_below HD.out k_25) hd).mono ?_
        rintro e w3c ⟨v3c, rfl, hR3c, hb3c⟩
        have S0_23 := Lib.hid (S0_22.out.below hb3c)
        have S1_23 := Lib.hid (S1_22.out.below hb3c)
        have G0_19 := Lib.hid (G0_18.out.below hb3c)
        have G1_19 := Lib.hid (G1_18.out.below hb3c)
        have k_26 := bstep k_25 hb3c
        clear S0_22 S1_22 G0_18 G1_18
        obtain ⟨D3, e3, hv3c, hc3c, hC3c⟩ := hR3c.reads
        subst hv3c
        have HC3c := Lib.hid hC3c
        clear hR3c hC3c
        go_wp2_with fail
        go_at_call 31
        refine (HIm.out A3 B3 D3 c3 d3 e3 _ (Kd.C_below HC3a.out (bstep hb3b hb3c)) (Kd.C_below HC3b.out hb3c) HC3c.out).mono ?_
        rintro e w3d ⟨u3, v3, rfl, f3, g3, hb3d⟩
        have S0_24 := Lib.hid (S0_23.out.below hb3d)
        have S1_24 := Lib.hid (S1_23.out.below hb3d)
        have G0_20 := Lib.hid (G0_19.out.below hb3d)
        have G1_20 := Lib.hid (G1_19.out.below hb3d)
        have k_27 := bstep k_26 hb3d
        clear S0_23 S1_23 G0_19 G1_19
        clear HC3a HC3b HC3c
        have T3 := Lib.hid f3
        have U3 := Lib.hid g3
        clear f3 g3
        go_wp2_with fail
        go_at_call 16
        refine (eqRT_any T3.out S0_24.out (by omega)).mono ?_
        rintro e w18 ⟨rfl, hb18⟩
        have S0_25 := Lib.hid (S0_24.out.below hb18)
        have S1_25 := Lib.hid (S1_24.out.below hb18)
        have G0_21 := Lib.hid (G0_20.out.below hb18)
        have G1_21 := Lib.hid (G1_20.out.below hb18)
        have k_28 := bstep k_27 hb18
        clear S0_24 S1_24 G0_20 G1_20
        have U4 := Lib.hid (U3.out.below hb18)
        go_wp2_with fail
        go_at_call 25
        refine (eqRC_any U4.out S1_25.out (by omega)).mono ?_
        rintro e w19 ⟨rfl, hb19⟩
        have S0_26 := Lib.hid (S0_25.out.below hb19)
        have S1_26 := Lib.hid (S1_25.out.below hb19)
        have G0_22 := Lib.hid (G0_21.out.below hb19)
        have G1_22 := Lib.hid (G1_21.out.below hb19)
        have k_29 := bstep k_28 hb19
        clear S0_25 S1_25 G0_21 G1_21
        go_wp2_with fail
        go_at_call 27
        refine (heldRT_any G0_22.out (by omega) (by decide) (by decide)).mono ?_
        rintro e w' ⟨rfl, rfl⟩
        go_wp2_with fail
        go_at_call 28
        refine (heldRC_any G1_22.out (by omega) (by omega) (by omega)).mono ?_
        rintro e w' ⟨rfl, rfl⟩
        go_wp2
        go_ret
        exact ⟨by simp, k_29⟩
      · go_enter Try.func6, Try.ntmps6
        go_wp2_with (first | (go_at_call 8; refine (szTrain_le _ _ _ _ (by omega) (by decide) _).mono ?_; rintro e w' ⟨rfl, rfl⟩) | (go_at_call 9; refine (szTooth_gt _ _ _ _ (by omega) (by omega) (by omega) (by omega) _).mono ?_; rintro e w' ⟨rfl, rfl⟩))
        go_ret
        exact ⟨rfl, Below.refl _ _⟩
    · go_enter Try.func6, Try.ntmps6
      go_wp2_with (go_at_call 8; refine (szTrain_gt _ _ _ _ (by omega) (by decide) (by decide) (by omega) _).mono ?_; rintro e w' ⟨rfl, rfl⟩)
      go_ret
      exact ⟨rfl, Below.refl _ _⟩
  · have hm' : (1048576 : Int) < xs.length := by omega
    go_enter Try.func6, Try.ntmps6
    go_wp2
    go_ret
    exact ⟨rfl, Below.refl _ _⟩
end Go.Proofs.Ytgpmmpgbghjieaa
