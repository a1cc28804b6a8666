/- The law FnExactWeekOf: the walk. -/
import Derived.Test.YtgpmmpgbghjieaaYearA
import Derived.Test.YtgpmmpgbghjieaaTeeth5
namespace Go.Proofs.Ytgpmmpgbghjieaa
open Go.RowKit Ieee
open Go.Proofs.YtgpmmpgbghjieaaW.PrintWords
set_option maxRecDepth 100000
attribute [local irreducible] wpRel

theorem eqRP_any {b b' : Nat} {u v : Value} {xs : List (Int × Int × Nat)} {w : World} (hu : RW kP 71 w b u xs) (hv : RW kP 71 w b' v xs) (hm : xs.length ≤ 1048576) :
    Calls Try.prog 15 #[u, v] w fun e w' => e = .returned (.bool true) ∧ Below w.heap.size w w' := by
  obtain ⟨A, c, rfl, _, hA⟩ := hu.reads
  obtain ⟨B, c', rfl, _, hB⟩ := hv.reads
  exact eqTrain_any A B c c' xs w hA hB hm
theorem ne_pt_ : (71 : Nat) ≠ 64 := by decide
theorem ne_pc_ : (71 : Nat) ≠ 67 := by decide
theorem ne_pf_ : (71 : Nat) ≠ 41 := by decide
theorem ne_tp_ : (64 : Nat) ≠ 71 := by decide
theorem ne_tc_ : (64 : Nat) ≠ 67 := by decide
theorem ne_tf_ : (64 : Nat) ≠ 41 := by decide
theorem ne_cp_ : (67 : Nat) ≠ 71 := by decide
theorem ne_ct_ : (67 : Nat) ≠ 64 := by decide
theorem ne_cf_ : (67 : Nat) ≠ 41 := by decide
theorem ne_fp_ : (41 : Nat) ≠ 71 := by decide
theorem ne_ft_ : (41 : Nat) ≠ 64 := by decide
theorem ne_fc_ : (41 : Nat) ≠ 67 := by decide
set_option maxHeartbeats 16000000 in
theorem law_weekOf (A : Option Addr) (c : Nat) (t : List (Int × Int × Nat)) (lc : t.length ≤ c) (lm : c ≤ maxLen) (_ : A = none → t.length = 0 ∧ c = 0) (B : Option Addr) (c' : Nat) (ps : List Tth) (lc' : ps.length ≤ c') (lm' : c' ≤ maxLen) (_ : B = none → ps.length = 0 ∧ c' = 0) (r0 : Nat) (hr0 : r0 < 4294967296) (q0 : Nat) (hq0 : q0 < 4294967296) (w : World) (hA : Kd.C kP w A t.length t) (hB : Kd.C kT w B ps.length ps) :
    Calls Try.prog 5 #[.slice A t.length c, .slice B ps.length c', .float .f32 r0, .float .f32 q0] w fun e w' => e = .returned (.bool true) ∧ Below w.heap.size w w' := by
  have HA : Hid (Kd.C kP w A t.length t) := Lib.hid hA
  have HB : Hid (Kd.C kT w B ps.length ps) := Lib.hid hB
  clear hA hB
  unfold maxLen at lm lm'
  by_cases hn : t.length ≤ 1048576
  · by_cases hmz : (ps.length : Int) ≤ 1048576 - (t.length : Int)
    · have hm : ps.length ≤ 1048576 := by omega
      have hspec := fun A B c c' w h1 h2 => weekOf_spec A B c c' t ps (cn r0) r0 ⟨rfl, hr0⟩ q0 (cn q0) ⟨rfl, hq0⟩ w h1 hn h2 hm
      have himpl := fun A B c c' w h1 h2 => weekOf_impl A B c c' t ps (cn r0) r0 ⟨rfl, hr0⟩ q0 (cn q0) ⟨rfl, hq0⟩ w h1 hn h2 hm
      have hlen := outY_len t ps [cn r0] (cn q0)
      generalize outY t ps [cn r0] (cn q0) = o at hspec himpl hlen
      obtain ⟨ys, cs, cd⟩ := o
      have hy : ys.length ≤ 8 := hlen.1
      have hc : cs.length ≤ 832 := hlen.2
      have HSp := Lib.hid hspec
      have HIm := Lib.hid himpl
      clear hspec himpl hlen hq0 hr0
      go_enter Try.func5, Try.ntmps5
      go_wp2_with (first | (go_at_call 8; refine (szTrain_le _ _ _ _ (by omega) (by decide) _).mono ?_; rintro e w' ⟨rfl, rfl⟩) | (go_at_call 9; refine (szTooth_le _ _ _ _ (by omega) (by omega) _).mono ?_; rintro e w' ⟨rfl, rfl⟩))
      go_at_call 11
      refine (toTrain_any A c t _ HA.out lc hn).mono ?_
      rintro e w1a ⟨v1a, rfl, hR1a, hb1a⟩
      have k_1 := hb1a
      obtain ⟨A1, c1, hv1a, hc1a, hC1a⟩ := Kd.R_reads hR1a
      subst hv1a
      have HC1a := Lib.hid hC1a
      clear hR1a hC1a
      go_wp2_with fail
      go_at_call 12
      refine (toTeeth_any B c' ps _ (Kd.C_below HB.out k_1) lc' hm).mono ?_
      rintro e w1b ⟨v1b, rfl, hR1b, hb1b⟩
      have k_2 := bstep k_1 hb1b
      obtain ⟨B1, d1, hv1b, hc1b, hC1b⟩ := Kd.R_reads hR1b
      subst hv1b
      have HC1b := Lib.hid hC1b
      clear hR1b hC1b
      go_wp2_with fail
      go_at_call 23
      refine (HSp.out A1 B1 c1 d1 _ (Kd.C_below HC1a.out hb1b) HC1b.out).mono ?_
      rintro e w1d ⟨u1, v1, rfl, f1, g1, hb1d⟩
      have k_3 := bstep k_2 hb1d
      clear HC1a HC1b
      have S0_1 := Lib.hid (f1)
      have S1_1 := Lib.hid (g1)
      clear f1 g1
      have lS0 := S0_1.out.lt
      have lS1 := S1_1.out.lt
      go_wp2_with fail
      go_at_call 11
      refine (toTrain_any A c t _ (Kd.C_below HA.out k_3) lc hn).mono ?_
      rintro e w2a ⟨v2a, rfl, hR2a, hb2a⟩
      have S0_2 := Lib.hid (S0_1.out.below hb2a)
      have S1_2 := Lib.hid (S1_1.out.below hb2a)
      have k_4 := bstep k_3 hb2a
      clear S0_1 S1_1
      obtain ⟨A2, c2, hv2a, hc2a, hC2a⟩ := Kd.R_reads hR2a
      subst hv2a
      have X0_1 := Lib.hid (RW.mk hR2a)
      have HC2a := Lib.hid hC2a
      clear hR2a hC2a
      go_wp2_with fail
      go_at_call 12
      refine (toTeeth_any B c' ps _ (Kd.C_below HB.out k_4) lc' hm).mono ?_
      rintro e w2b ⟨v2b, rfl, hR2b, hb2b⟩
      have S0_3 := Lib.hid (S0_2.out.below hb2b)
      have S1_3 := Lib.hid (S1_2.out.below hb2b)
      have X0_2 := Lib.hid (X0_1.out.below hb2b)
      have k_5 := bstep k_4 hb2b
      clear S0_2 S1_2 X0_1
      obtain ⟨B2, d2, hv2b, hc2b, hC2b⟩ := Kd.R_reads hR2b
      subst hv2b
      have X1_1 := Lib.hid (RW.mk hR2b)
      have HC2b := Lib.hid hC2b
      clear hR2b hC2b
      have lX1 : ∀ j, (Value.slice B2 ps.length d2).ownBlock = some j → j < w2b.heap.size := X1_1.out.lt
      go_wp2_with fail
      go_at_call 24
      refine (HIm.out A2 B2 c2 d2 _ (Kd.C_below HC2a.out hb2b) HC2b.out).mono ?_
      rintro e w2d ⟨u2, v2, rfl, f2, g2, hb2d⟩
      have S0_4 := Lib.hid (S0_3.out.below hb2d)
      have S1_4 := Lib.hid (S1_3.out.below hb2d)
      have X0_3 := Lib.hid (X0_2.out.below hb2d)
      have X1_2 := Lib.hid (X1_1.out.below hb2d)
      have k_6 := bstep k_5 hb2d
      clear S0_3 S1_3 X0_2 X1_1
      clear HC2a HC2b
      have G0_1 := Lib.hid (f2)
      have G1_1 := Lib.hid (g2)
      clear f2 g2
      have hs1 : w1d.heap.size ≤ w2a.heap.size := hb2a.size
      have hs2 : w2a.heap.size ≤ w2b.heap.size := hb2b.size
      have bX1 := X1_2.out.base_le
      have bG0 := G0_1.out.base_le
      have bG1 := G1_1.out.base_le
      have N := Lib.hid (show (∀ j, u1.ownBlock = some j → some j ≠ (Value.slice B2 ps.length d2).ownBlock) ∧ (∀ j, u1.ownBlock = some j → some j ≠ u2.ownBlock) ∧ (∀ j, u2.ownBlock = some j → some j ≠ (Value.slice B2 ps.length d2).ownBlock) ∧ (∀ j, v1.ownBlock = some j → some j ≠ v2.ownBlock) from ⟨fun j hj he => by have h1 := lS0 j hj; have h2 := bX1 j he.symm; omega, fun j hj he => by have h1 := lS0 j hj; have h2 := bG0 j he.symm; omega, fun j hj he => by have h1 := lX1 j he.symm; have h2 := bG0 j hj; omega, fun j hj he => by have h1 := lS1 j hj; have h2 := bG1 j he.symm; omega⟩)
      have h0w : w.heap.size ≤ w1d.heap.size := by have := hb1a.size; have := hb1b.size; have := hb1d.size; omega
      have BX0 := Lib.hid (fun j hj => by have h1 := X0_3.out.base_le j hj; have h2 : w.heap.size ≤ _ := h0w; omega : ∀ j, (Value.slice A2 t.length c2).ownBlock = some j → w.heap.size ≤ j)
      have BX1 := Lib.hid (fun j hj => by have h1 := X1_2.out.base_le j hj; have h2 : w.heap.size ≤ _ := h0w; omega : ∀ j, (Value.slice B2 ps.length d2).ownBlock = some j → w.heap.size ≤ j)
      have BG0 := Lib.hid (fun j hj => by have h1 := G0_1.out.base_le j hj; have h2 : w.heap.size ≤ _ := h0w; omega : ∀ j, u2.ownBlock = some j → w.heap.size ≤ j)
      have BG1 := Lib.hid (fun j hj => by have h1 := G1_1.out.base_le j hj; have h2 : w.heap.size ≤ _ := h0w; omega : ∀ j, v2.ownBlock = some j → w.heap.size ≤ j)
      clear lS0 lS1 lX1 bX1 bG0 bG1 hs1 hs2 h0w
      go_wp2_with fail
      go_at_call 16
      refine (eqRT_any G0_1.out S0_4.out (by omega)).mono ?_
      rintro e w3 ⟨rfl, hb3⟩
      have S0_5 := Lib.hid (S0_4.out.below hb3)
      have S1_5 := Lib.hid (S1_4.out.below hb3)
      have X0_4 := Lib.hid (X0_3.out.below hb3)
      have X1_3 := Lib.hid (X1_2.out.below hb3)
      have G0_2 := Lib.hid (G0_1.out.below hb3)
      have G1_2 := Lib.hid (G1_1.out.below hb3)
      have k_7 := bstep k_6 hb3
      clear S0_4 S1_4 X0_3 X1_2 G0_1 G1_1
      go_wp2_with fail
      go_at_call 25
      refine (eqRC_any G1_2.out S1_5.out (by omega)).mono ?_
      rintro e w4 ⟨rfl, hb4⟩
      have S0_6 := Lib.hid (S0_5.out.below hb4)
      have S1_6 := Lib.hid (S1_5.out.below hb4)
      have X0_5 := Lib.hid (X0_4.out.below hb4)
      have X1_4 := Lib.hid (X1_3.out.below hb4)
      have G0_3 := Lib.hid (G0_2.out.below hb4)
      have G1_3 := Lib.hid (G1_2.out.below hb4)
      have k_8 := bstep k_7 hb4
      clear S0_5 S1_5 X0_4 X1_3 G0_2 G1_2
      go_wp2_with fail
      go_at_call 11
      refine (toTrain_any A c t _ (Kd.C_below HA.out k_8) lc hn).mono ?_
      rintro e w5 ⟨v5, rfl, hR5, hb5⟩
      have S0_7 := Lib.hid (S0_6.out.below hb5)
      have S1_7 := Lib.hid (S1_6.out.below hb5)
      have X0_6 := Lib.hid (X0_5.out.below hb5)
      have X1_5 := Lib.hid (X1_4.out.below hb5)
      have G0_4 := Lib.hid (G0_3.out.below hb5)
      have G1_4 := Lib.hid (G1_3.out.below hb5)
      have k_9 := bstep k_8 hb5
      clear S0_6 S1_6 X0_5 X1_4 G0_3 G1_3
      have T5 := Lib.hid (RW.mk hR5)
      clear hR5
      go_wp2_with fail
      go_at_call 15
      refine (eqRP_any X0_6.out T5.out hn).mono ?_
      rintro e w6 ⟨rfl, hb6⟩
      have S0_8 := Lib.hid (S0_7.out.below hb6)
      have S1_8 := Lib.hid (S1_7.out.below hb6)
      have X0_7 := Lib.hid (X0_6.out.below hb6)
      have X1_6 := Lib.hid (X1_5.out.below hb6)
      have G0_5 := Lib.hid (G0_4.out.below hb6)
      have G1_5 := Lib.hid (G1_4.out.below hb6)
      have k_10 := bstep k_9 hb6
      clear S0_7 S1_7 X0_6 X1_5 G0_4 G1_4
      clear T5
      go_wp2_with fail
      go_at_call 12
      refine (toTeeth_any B c' ps _ (Kd.C_below HB.out k_10) lc' hm).mono ?_
      rintro e w7 ⟨v7, rfl, hR7, hb7⟩
      have S0_9 := Lib.hid (S0_8.out.below hb7)
      have S1_9 := Lib.hid (S1_8.out.below hb7)
      have X0_8 := Lib.hid (X0_7.out.below hb7)
      have X1_7 := Lib.hid (X1_6.out.below hb7)
      have G0_6 := Lib.hid (G0_5.out.below hb7)
      have G1_6 := Lib.hid (G1_5.out.below hb7)
      have k_11 := bstep k_10 hb7
      clear S0_8 S1_8 X0_7 X1_6 G0_5 G1_5
      have T7 := Lib.hid (RW.mk hR7)
      clear hR7
      go_wp2_with fail
      go_at_call 16
      refine (eqRT_any X1_7.out T7.out hm).mono ?_
      rintro e w8 ⟨rfl, hb8⟩
      have S0_10 := Lib.hid (S0_9.out.below hb8)
      have S1_10 := Lib.hid (S1_9.out.below hb8)
      have X0_9 := Lib.hid (X0_8.out.below hb8)
      have X1_8 := Lib.hid (X1_7.out.below hb8)
      have G0_7 := Lib.hid (G0_6.out.below hb8)
      have G1_7 := Lib.hid (G1_6.out.below hb8)
      have k_12 := bstep k_11 hb8
      clear S0_9 S1_9 X0_8 X1_7 G0_6 G1_6
      clear T7
      go_wp2_with fail
      go_at_call 17
      refine (markTrain_any _ t 1 _ _ X0_9.out hn (by decide) (by decide)).mono ?_
      rintro e w11 ⟨rfl, hg11⟩
      have S0_11 := Lib.hid (S0_10.out.grown rfl hg11 (S0_10.out.ne_type X0_9.out ne_tp_))
      have S1_11 := Lib.hid (S1_10.out.grown rfl hg11 (S1_10.out.ne_type X0_9.out ne_cp_))
      have X1_9 := Lib.hid (X1_8.out.grown rfl hg11 (X1_8.out.ne_type X0_9.out ne_tp_))
      have G0_8 := Lib.hid (G0_7.out.grown rfl hg11 (G0_7.out.ne_type X0_9.out ne_tp_))
      have G1_8 := Lib.hid (G1_7.out.grown rfl hg11 (G1_7.out.ne_type X0_9.out ne_cp_))
      have k_13 : Below w.heap.size w _ := k_12.grown hg11 k_12.size (BX0.out)
      clear S0_10 S1_10 X1_8 G0_7 G1_7 X0_9
      go_wp2_with fail
      go_at_call 18
      refine (markTeeth_any _ ps _ _ _ X1_9.out hm (by omega) (by omega)).mono ?_
      rintro e w12 ⟨rfl, _, hg12⟩
      have S0_12 := Lib.hid (S0_11.out.grown rfl hg12 N.out.1)
      have S1_12 := Lib.hid (S1_11.out.grown rfl hg12 (S1_11.out.ne_type X1_9.out ne_ct_))
      have G0_9 := Lib.hid (G0_8.out.grown rfl hg12 N.out.2.2.1)
      have G1_9 := Lib.hid (G1_8.out.grown rfl hg12 (G1_8.out.ne_type X1_9.out ne_ct_))
      have k_14 : Below w.heap.size w _ := k_13.grown hg12 k_13.size (BX1.out)
      clear S0_11 S1_11 G0_8 G1_8 X1_9
      go_wp2_with fail
      go_at_call 16
      refine (eqRT_any G0_9.out S0_12.out (by omega)).mono ?_
      rintro e w14 ⟨rfl, hb14⟩
      have S0_13 := Lib.hid (S0_12.out.below hb14)
      have S1_13 := Lib.hid (S1_12.out.below hb14)
      have G0_10 := Lib.hid (G0_9.out.below hb14)
      have G1_10 := Lib.hid (G1_9.out.below hb14)
      have k_15 := bstep k_14 hb14
      clear S0_12 S1_12 G0_9 G1_9
      go_wp2_with fail
      go_at_call 25
      refine (eqRC_any G1_10.out S1_13.out (by omega)).mono ?_
      rintro e w15 ⟨rfl, hb15⟩
      have S0_14 := Lib.hid (S0_13.out.below hb15)
      have S1_14 := Lib.hid (S1_13.out.below hb15)
      have G0_11 := Lib.hid (G0_10.out.below hb15)
      have G1_11 := Lib.hid (G1_10.out.below hb15)
      have k_16 := bstep k_15 hb15
      clear S0_13 S1_13 G0_10 G1_10
      go_wp2_with fail
      go_at_call 18
      refine (markTeeth_any u2 ys 1 _ _ G0_11.out (by omega) (by decide) (by decide)).mono ?_
      rintro e w16 ⟨rfl, f16, hg16⟩
      have S0_15 := Lib.hid (S0_14.out.grown rfl hg16 N.out.2.1)
      have S1_15 := Lib.hid (S1_14.out.grown rfl hg16 (S1_14.out.ne_type G0_11.out ne_ct_))
      have G1_12 := Lib.hid (G1_11.out.grown rfl hg16 (G1_11.out.ne_type G0_11.out ne_ct_))
      have k_17 : Below w.heap.size w _ := k_16.grown hg16 k_16.size (BG0.out)
      have G0_12 := Lib.hid (f16)
      clear S0_14 S1_14 G1_11 G0_11
      clear f16
      go_wp2_with fail
      go_at_call 26
      refine (markChanges_any v2 cs _ _ _ G1_12.out (by omega) (by omega) (by omega)).mono ?_
      rintro e w17 ⟨rfl, f17, hg17⟩
      have S0_16 := Lib.hid (S0_15.out.grown rfl hg17 (S0_15.out.ne_type G1_12.out ne_tc_))
      have S1_16 := Lib.hid (S1_15.out.grown rfl hg17 N.out.2.2.2)
      have G0_13 := Lib.hid (G0_12.out.grown rfl hg17 (G0_12.out.ne_type G1_12.out ne_tc_))
      have k_18 : Below w.heap.size w _ := k_17.grown hg17 k_17.size (BG1.out)
      have G1_13 := Lib.hid (f17)
      clear S0_15 S1_15 G0_12 G1_12
      clear f17
      go_wp2_with fail
      go_at_call 27
      refine (heldRT_any G0_13.out (by omega) (by decide) (by decide)).mono ?_
      rintro e w' ⟨rfl, rfl⟩
      go_wp2_with fail
      go_at_call 28
      refine (heldRC_any G1_13.out (by omega) (by omega) (by omega)).mono ?_
      rintro e w' ⟨rfl, rfl⟩
      go_wp2_with fail
      go_at_call 11
      refine (toTrain_any A c t _ (Kd.C_below HA.out k_18) lc hn).mono ?_
      rintro e w3a ⟨v3a, rfl, hR3a, hb3a⟩
      have S0_17 := Lib.hid (S0_16.out.below hb3a)
      have S1_17 := Lib.hid (S1_16.out.below hb3a)
      have G0_14 := Lib.hid (G0_13.out.below hb3a)
      have G1_14 := Lib.hid (G1_13.out.below hb3a)
      have k_19 := bstep k_18 hb3a
      clear S0_16 S1_16 G0_13 G1_13
      obtain ⟨A3, c3, hv3a, hc3a, hC3a⟩ := Kd.R_reads hR3a
      subst hv3a
      have HC3a := Lib.hid hC3a
      clear hR3a hC3a
      go_wp2_with fail
      go_at_call 12
      refine (toTeeth_any B c' ps _ (Kd.C_below HB.out k_19) lc' hm).mono ?_
      rintro e w3b ⟨v3b, rfl, hR3b, hb3b⟩
      have S0_18 := Lib.hid (S0_17.out.below hb3b)
      have S1_18 := Lib.hid (S1_17.out.below hb3b)
      have G0_15 := Lib.hid (G0_14.out.below hb3b)
      have G1_15 := Lib.hid (G1_14.out.below hb3b)
      have k_20 := bstep k_19 hb3b
      clear S0_17 S1_17 G0_14 G1_14
      obtain ⟨B3, d3, hv3b, hc3b, hC3b⟩ := Kd.R_reads hR3b
      subst hv3b
      have HC3b := Lib.hid hC3b
      clear hR3b hC3b
      go_wp2_with fail
      go_at_call 24
      refine (HIm.out A3 B3 c3 d3 _ (Kd.C_below HC3a.out hb3b) HC3b.out).mono ?_
      rintro e w3d ⟨u3, v3, rfl, f3, g3, hb3d⟩
      have S0_19 := Lib.hid (S0_18.out.below hb3d)
      have S1_19 := Lib.hid (S1_18.out.below hb3d)
      have G0_16 := Lib.hid (G0_15.out.below hb3d)
      have G1_16 := Lib.hid (G1_15.out.below hb3d)
      have k_21 := bstep k_20 hb3d
      clear S0_18 S1_18 G0_15 G1_15
      clear HC3a HC3b
      have T3 := Lib.hid f3
      have U3 := Lib.hid g3
      clear f3 g3
      go_wp2_with fail
      go_at_call 16
      refine (eqRT_any T3.out S0_19.out (by omega)).mono ?_
      rintro e w18 ⟨rfl, hb18⟩
      have S0_20 := Lib.hid (S0_19.out.below hb18)
      have S1_20 := Lib.hid (S1_19.out.below hb18)
      have G0_17 := Lib.hid (G0_16.out.below hb18)
      have G1_17 := Lib.hid (G1_16.out.below hb18)
      have k_22 := bstep k_21 hb18
      clear S0_19 S1_19 G0_16 G1_16
      have U4 := Lib.hid (U3.out.below hb18)
      go_wp2_with fail
      go_at_call 25
      refine (eqRC_any U4.out S1_20.out (by omega)).mono ?_
      rintro e w19 ⟨rfl, hb19⟩
      have S0_21 := Lib.hid (S0_20.out.below hb19)
      have S1_21 := Lib.hid (S1_20.out.below hb19)
      have G0_18 := Lib.hid (G0_17.out.below hb19)
      have G1_18 := Lib.hid (G1_17.out.below hb19)
      have k_23 := bstep k_22 hb19
      clear S0_20 S1_20 G0_17 G1_17
      go_wp2_with fail
      go_at_call 27
      refine (heldRT_any G0_18.out (by omega) (by decide) (by decide)).mono ?_
      rintro e w' ⟨rfl, rfl⟩
      go_wp2_with fail
      go_at_call 28
      refine (heldRC_any G1_18.out (by omega) (by omega) (by omega)).mono ?_
      rintro e w' ⟨rfl, rfl⟩
      go_wp2
      go_ret
      exact ⟨by simp, k_23⟩
    · go_enter Try.func5, Try.ntmps5
      go_wp2_with (first | (go_at_call 8; refine (szTrain_le _ _ _ _ (by omega) (by decide) _).mono ?_; rintro e w' ⟨rfl, rfl⟩) | (go_at_call 9; refine (szTooth_gt _ _ _ _ (by omega) (by omega) (by omega) (by omega) _).mono ?_; rintro e w' ⟨rfl, rfl⟩))
      go_ret
      exact ⟨rfl, Below.refl _ _⟩
  · go_enter Try.func5, Try.ntmps5
    go_wp2_with (go_at_call 8; refine (szTrain_gt _ _ _ _ (by omega) (by decide) (by decide) (by omega) _).mono ?_; rintro e w' ⟨rfl, rfl⟩)
    go_ret
    exact ⟨rfl, Below.refl _ _⟩
end Go.Proofs.Ytgpmmpgbghjieaa
