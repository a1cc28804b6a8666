/- FnPlays: the walk. -/
import Derived.Test.YtpkmmelinfcdaaaPls
import Derived.Deep.RegionHeld3
import Derived.StillTactics
namespace Go.Proofs.Ytpkmmelinfcdaaa
open Go.RowKit Ieee
open Go.Proofs.YtpkmmelinfcdaaaW.PrintWords
set_option maxRecDepth 100000
attribute [local irreducible] wpRel
attribute [local irreducible] World.setCell
set_option maxHeartbeats 16000000 in
theorem plays_walk (A B : Option Addr) (c c' : Nat) (xs ys : List Int) (w : World) (hA : Bytes w A xs) (hB : Bytes w B ys) (hx : xs.length ≤ 4096) (hy : ys.length ≤ 4096) :
    Calls Try.prog 7 #[.slice A xs.length c, .slice B ys.length c'] w fun e w' => e = .returned (.bool true) ∧ Below w.heap.size w w' := by
  have HA := Lib.hid hA
  have HB := Lib.hid hB
  clear hA hB
  go_enter Try.func7, Try.ntmps7
  go_wp2_with (go_at_call 25; refine (f6big_any _ _ _ (by omega) _).mono ?_; rintro e w' ⟨rfl, rfl⟩)
  go_at_call 26
  refine (p6Train_any A c xs _ HA.out).mono ?_
  rintro e w1 ⟨v1, t, rfl, hR, h1, h4, hd, hb1⟩
  obtain ⟨A1, c1, rfl, hc1, hC1⟩ := hR.reads
  have HT := Lib.hid hC1
  have HD := Lib.hid hd
  clear hR hC1 hd
  go_wp2_with fail
  go_at_call 27
  refine (p6Plays_any B A1 c' c1 t.length ys _ (HB.out.below hb1) (by omega)).mono ?_
  rintro e w2 ⟨v2, ps, rfl, hR2, hl2, hp2, hb2⟩
  obtain ⟨B2, c2, rfl, hc2, hC2⟩ := hR2.reads
  have HL2 := Lib.hid hl2
  have hl2b : ps.length ≤ 4 := by omega
  have hl2a : 1 ≤ ps.length := by omega
  clear hl2
  have HP := Lib.hid hC2
  have HPV := Lib.hid hp2
  have k2 := bstep hb1 hb2
  clear hR2 hC2 hp2
  go_wp2_with (at_builtin; go_must (refine catB (w0 := w2) (o := ⟨some 53, _, _, _, _, _⟩) rfl (.tmp 51) (.tmp 52) rfl (.slice (some ⟨w2.heap.size, 0, none⟩) 1 1) [9] ys B ys.length c' ?cy7 ?cx7 (R_byte w2 9) (Kd.C_below HB.out.row (balloc k2 _)) (balloc (Below.refl _ _) _) (by simp; omega) ?_; (case cy7 => rfl); (case cx7 => rfl); intro v3 w3 h3 hb3; obtain ⟨A3, c3, rfl, hc3, hC3⟩ := h3.reads; have H3 := Lib.hid hC3; clear h3 hC3))
  go_at_call 27
  refine (p6Plays_any A3 A1 c3 c1 t.length ([9] ++ ys) _ ⟨H3.out, ?_, by simp; omega⟩ (by omega)).mono ?_
  · intro i hi
    cases i with
    | zero => exact ⟨show (0 : Int) ≤ 9 by decide, show (9 : Int) ≤ 255 by decide⟩
    | succ i => exact HB.out.bound i (by simpa using hi)
  rintro e w4 ⟨v4, qs, rfl, hR4, hl4, hp4, hb4⟩
  obtain ⟨B4, c4, rfl, hc4, hC4⟩ := hR4.reads
  have HL4 := Lib.hid hl4
  have hl4b : qs.length ≤ 4 := by omega
  clear hl4
  have HQ := Lib.hid hC4
  have HQV := Lib.hid hp4
  have k4 := bstep (bstep k2 hb3) hb4
  have j4 : Below w2.heap.size w2 w4 := bstep hb3 hb4
  have i4 : Below w1.heap.size w1 w4 := bstep hb2 j4
  have HT4 := Lib.hid (Kd.C_below HT.out i4)
  have HP4 := Lib.hid (Kd.C_below HP.out j4)
  clear HT HP H3 hR4 hC4 hp4 hb1 hb2 hb3 hb4 k2 j4 i4
  -- values
  have ok := OkP.mk' HD.out h1 (by omega) HPV.out HL2.out
  have okq := OkP.mk' HD.out h1 (by omega) HQV.out HL4.out
  obtain ⟨b, hb, hwp, hmin, hfirst⟩ := ok.widest HPV.out
  have HOK := Lib.hid ok
  have HOQ := Lib.hid okq
  have HM := Lib.hid (And.intro hmin hfirst)
  have HWP := Lib.hid hwp
  clear ok okq hmin hfirst hwp
  go_wp2_with fail
  go_at_call 19
  refine (alongI_ok HOK.out HT4.out HP4.out hc2).mono ?_
  rintro e w5 ⟨A5, c5, rfl, hC5, hb5⟩
  have k5 := bstep k4 hb5
  have H5 := Lib.hid hC5
  clear hC5
  go_wp2_with fail
  go_at_call 18
  refine (alongS_ok HOK.out (Kd.C_below HT4.out hb5) (Kd.C_below HP4.out hb5)).mono ?_
  rintro e w6 ⟨A6, c6, rfl, hC6, hb6⟩
  have k6 := bstep k5 hb6
  have j6 := bstep hb5 hb6
  obtain ⟨m, hm⟩ : ∃ m, t.length = m + 1 := ⟨t.length - 1, by omega⟩
  obtain ⟨b6, o6, rfl, hl6, hx6⟩ := last_ok HOK.out hC6 hm
  have hm1 : (t.length : Int) - 1 = (m : Int) := by omega
  have hm2 : (m : Int) < (t.length : Int) := by omega
  have hm3 : (0 : Int) ≤ (m : Int) := by omega
  have H6 := Lib.hid hC6
  clear hC6 hm
  go_wp2_with fail
  go_at_call 12
  refine (playAtI_ok HOK.out (Kd.C_below HT4.out j6) (Kd.C_below HP4.out j6) hc2).mono ?_
  rintro e w7 ⟨rfl, hb7⟩
  have k7 := bstep k6 hb7
  have j7 := bstep j6 hb7
  go_wp2_with fail
  go_at_call 9
  refine (playAtS_ok HOK.out (Kd.C_below HT4.out j7) (Kd.C_below HP4.out j7)).mono ?_
  rintro e w8 ⟨rfl, hb8⟩
  have k8 := bstep k7 hb8
  have j8 := bstep j7 hb8
  have HLW : Hid (nn (endV t (ps.set b 0))) := Lib.hid (HOK.out.set b (show isPt 0 by unfold isPt; omega) HPV.out).end_nn
  go_wp2_with fail
  go_at_call 24
  refine (widestI_ok HOK.out HWP.out HLW.out (Kd.C_below HT4.out j8) (Kd.C_below HP4.out j8) hc2).mono ?_
  rintro e w9 ⟨rfl, hb9⟩
  have k9 := bstep k8 hb9
  have j9 := bstep j8 hb9
  go_wp2_with fail
  go_at_call 23
  refine (widestS_ok HOK.out HWP.out HLW.out (Kd.C_below HT4.out j9) (Kd.C_below HP4.out j9)).mono ?_
  rintro e w10 ⟨rfl, hb10⟩
  have k10 := bstep k9 hb10
  have j10 := bstep j9 hb10
  have g10 : Below w6.heap.size w6 w10 := bstep (bstep (bstep hb7 hb8) hb9) hb10
  have H5' := Lib.hid (Kd.C_below H5.out (bstep hb6 g10))
  have H6' := Lib.hid (Kd.C_below H6.out g10)
  have fl1 : flt (endV t ps) (endV t (ps.set b 0)) = false := by
    rw [nn_flt HOK.out.end_nn HLW.out]
    exact decide_eq_false (by have := alo_mono HOK.out.up HOK.out.nnl (set_zero_le ps b) (t.length - 1) (by omega); unfold endV; omega)
  have hb1 : ¬ (b : Int) < 0 := by omega
  have hb2 : ¬ (t.length : Int) ≤ (b : Int) := by omega
  have hx10 := (bc g10 b6 (o6 + m) hl6).trans hx6
  clear hx6 H5 H6 hb5 hb6 hb7 hb8 hb9 hb10 k5 k6 k7 k8 k9 j6 j7 j8 j9
  go_wp2_with (first | (go_at_call 29; refine (sameNumber_self _ _).mono ?_; rintro e w' ⟨rfl, rfl⟩) | (go_at_call 28; refine (sameAlong_ok HOK.out H5'.out H6'.out).mono ?_; rintro e w11 ⟨rfl, hb11⟩; have hx11 := (bc hb11 b6 (o6 + m) (Nat.lt_of_lt_of_le hl6 g10.size)).trans hx10))
  have j11 := Lib.hid (bstep j10 hb11)
  have k11 := Lib.hid (bstep k10 hb11)
  clear hb11 hx11 hx10 j10 k10 g10 H5' H6' hl6 fl1 hb1 hb2 hm1 hm2 hm3
  rw [decide_eq_false (show ¬ t.length ≤ b by omega), decide_eq_false (show ¬ (b : Int) < 0 by omega)]
  simp only [Bool.or_self, Bool.or_false]
  go_loopw [22] (fun i wr => ∃ k : Nat, k ≤ ps.length ∧ i = .int .i64 k ∧ Hid (Below w4.heap.size w4 wr)) (fun i _ => ps.length - (intOf i).toNat)
  case atStart => exact ⟨0, Nat.zero_le _, rfl, j11⟩
  case round =>
    obtain ⟨k, hk, rfl, HJ⟩ := hrel
    by_cases hlt : k < ps.length
    · have hlt1 : (k : Int) < (ps.length : Int) := by omega
      have hk0 : (0 : Int) ≤ (k : Int) := by omega
      have okU := HOK.out.set k (show isPt 0 by unfold isPt; omega) HPV.out
      have okO := HOK.out.set k (show isPt 1065353216 by unfold isPt; omega) HPV.out
      have hkt : k < t.length := by have := HL2.out; omega
      have fu1 : flt (endV t ps) (endV t (ps.set k 0)) = false := by
        rw [nn_flt HOK.out.end_nn okU.end_nn]
        exact decide_eq_false (by have := alo_mono HOK.out.up HOK.out.nnl (set_zero_le ps k) (t.length - 1) (by omega); unfold endV; omega)
      have fu2 : flt (endV t (ps.set k 0)) (endV t (ps.set b 0)) = false := by
        rw [nn_flt okU.end_nn HLW.out]
        exact decide_eq_false (by have := HM.out.1 k hkt; omega)
      have fu3 : flt (endV t (ps.set k 1065353216)) (endV t ps) = false := by
        rw [nn_flt okO.end_nn HOK.out.end_nn]
        exact decide_eq_false (by have := alo_mono okO.up okO.nnl (le_set_one (fun i => HPV.out i) k) (t.length - 1) (by omega); unfold endV; omega)
      have fu4 : feq (endV t (ps.set k 0)) (endV t (ps.set b 0)) = false ∨ (feq (endV t (ps.set k 0)) (endV t (ps.set b 0)) = true ∧ ¬ (k : Int) < (b : Int)) := by
        rw [nn_feq okU.end_nn HLW.out]
        by_cases hkb : k < b
        · exact .inl (decide_eq_false (by have := HM.out.2 k hkb; omega))
        · by_cases he : endV t (ps.set k 0) = endV t (ps.set b 0)
          · exact .inr ⟨decide_eq_true he, by omega⟩
          · exact .inl (decide_eq_false he)
      have HU := Lib.hid okU
      have HO := Lib.hid okO
      have HE := Lib.hid (FR.empty (w := wr.alloc (.cells #[] 25)) wr.heap.size wr.heap.size (heap_alloc_new wr _) (Nat.le_refl _))
      have b0 : Below wr.heap.size wr (wr.alloc (.cells #[] 25)) := balloc (Below.refl _ _) _
      have HK := Lib.hid hlt
      have hsz4 : w4.heap.size ≤ wr.heap.size := HJ.out.size
      have HLs0 := Lib.hid (show (ps.set k 0).length = ps.length from List.length_set)
      have HLs1 := Lib.hid (show (ps.set k 1065353216).length = ps.length from List.length_set)
      have HF1 := Lib.hid (show FV 1065353216 1065353216 from ⟨by decide, by decide⟩)
      clear okU okO
      go_wp2_with (first
        | (at_builtin; refine catF (w0 := wr) (o := ⟨some 183, _, _, _, _, _⟩) rfl (.tmp 181) (.tmp 182) rfl (.slice (some ⟨wr.heap.size, 0, none⟩) 0 0) [] ps B2 ps.length c2 ?cya ?cxa HE.out (Kd.C_below HP4.out (bstep HJ.out b0)) b0 (by simp; omega) ?_; (case cya => rfl); (case cxa => rfl); intro v1 wa h1 hba; rw [List.nil_append] at h1; obtain ⟨g1, cap1, r1, rfl, hge1, hglt1, x1, f1, hcap1, hC1⟩ := setAt h1 k HK.out FV_zero; have HS1 := Lib.hid hC1; have HE2 := Lib.hid (FR.empty (w := (wa.setCell ⟨g1, k, none⟩ (.float .f32 0)).alloc (.cells #[] 25)) (wa.setCell ⟨g1, k, none⟩ (.float .f32 0)).heap.size (wa.setCell ⟨g1, k, none⟩ (.float .f32 0)).heap.size (heap_alloc_new _ _) (Nat.le_refl _)); have J2 := Lib.hid (bset (p := ⟨g1, k, none⟩) (bstep HJ.out hba) (show w4.heap.size ≤ g1 by omega) (.float .f32 0)); clear h1 hC1)
        | (at_builtin; go_must (refine catF (w0 := wa.setCell ⟨g1, k, none⟩ (.float .f32 0)) (o := ⟨some 189, _, _, _, _, _⟩) rfl (.tmp 187) (.tmp 188) rfl (.slice (some ⟨(wa.setCell ⟨g1, k, none⟩ (.float .f32 0)).heap.size, 0, none⟩) 0 0) [] ps B2 ps.length c2 ?cyb ?cxb HE2.out (Kd.C_below HP4.out (balloc J2.out _)) (balloc (Below.refl _ _) _) (by simp; omega) ?_; (case cyb => go_simp); (case cxb => rfl); intro v2 wb h2 hbb; rw [List.nil_append] at h2; obtain ⟨g2, cap2, r2, rfl, hge2, hglt2, x2, f2, hcap2, hC2⟩ := setAt h2 k HK.out HF1.out; have HS2 := Lib.hid hC2; clear h2 hC2)))
      go_at_call 12
      have hszW : (wa.setCell ⟨g1, k, none⟩ (.float .f32 0)).heap.size = wa.heap.size := by simp
      have hszj : w4.heap.size ≤ wa.heap.size := by have := J2.out.size; omega
      have B24 : Below (wa.setCell ⟨g1, k, none⟩ (.float .f32 0)).heap.size (wa.setCell ⟨g1, k, none⟩ (.float .f32 0)) (wb.setCell ⟨g2, k, none⟩ (.float .f32 1065353216)) := bset (p := ⟨g2, k, none⟩) hbb hge2 _
      have J4 := bstep J2.out B24
      refine (playAtI_n HU.out HLs0.out (Kd.C_below HT4.out J4) (Kd.C_below HS1.out B24) hcap1).mono ?_
      rintro e wc ⟨rfl, hbc⟩
      go_wp2_with fail
      go_at_call 12
      refine (playAtI_n HO.out HLs1.out (Kd.C_below HT4.out (bstep J4 hbc)) (Kd.C_below HS2.out hbc) hcap2).mono ?_
      rintro e wd ⟨rfl, hbd⟩
      have J6 := Lib.hid (bstep (bstep J4 hbc) hbd)
      clear hbc hbd B24 J4 x1 x2 f1 f2
      rcases fu4 with fu4 | ⟨fu4, fu5⟩
      · go_wp2
        go_roundw
        case rel => exact ⟨k + 1, hlt, by go_num, J6⟩
        case measure => simp [intOf]; omega
      · go_wp2
        go_roundw
        case rel => exact ⟨k + 1, hlt, by go_num, J6⟩
        case measure => simp [intOf]; omega
    · go_wp2
      have HB0 : Hid (Below w4.heap.size w4 ((wr.alloc (.cells #[] 25)).alloc (.cells #[] 25))) := Lib.hid (balloc (balloc HJ.out _) _)
      have hszr : w4.heap.size ≤ wr.heap.size := HJ.out.size
      have HL0 : Hid (FR ((wr.alloc (.cells #[] 25)).alloc (.cells #[] 25)) w4.heap.size (.slice (some ⟨wr.heap.size, 0, none⟩) 0 0) (lowsL ps qs 0)) := Lib.hid ((FR.empty (w := wr.alloc (.cells #[] 25)) w4.heap.size wr.heap.size (heap_alloc_new wr _) hszr).alloc _)
      have HH0 : Hid (FR ((wr.alloc (.cells #[] 25)).alloc (.cells #[] 25)) w4.heap.size (.slice (some ⟨wr.heap.size + 1, 0, none⟩) 0 0) (highsL ps qs 0)) := Lib.hid (FR.empty (w := (wr.alloc (.cells #[] 25)).alloc (.cells #[] 25)) w4.heap.size (wr.heap.size + 1) (by have := heap_alloc_new (wr.alloc (.cells #[] 25)) (.cells #[] 25); simpa using this) (by omega))
      go_loopw [29, 30, 31] (fun u v i wx => ∃ k' : Nat, k' ≤ ps.length ∧ i = .int .i64 k' ∧ Hid (FR wx w4.heap.size u (lowsL ps qs k')) ∧ Hid (FR wx w4.heap.size v (highsL ps qs k')) ∧ Hid (∀ j, v.ownBlock = some j → some j ≠ u.ownBlock) ∧ Hid (Below w4.heap.size w4 wx)) (fun _ _ i _ => ps.length - (intOf i).toNat)
      case atStart => exact ⟨0, Nat.zero_le _, rfl, HL0, HH0, Lib.hid (by intro j hj; simp [Value.ownBlock] at hj ⊢; omega), HB0⟩
      case round =>
        clear HL0 HH0 HB0
        obtain ⟨k', hk', rfl, HL, HH, HN, HJ2⟩ := hrel
        by_cases hlt' : k' < ps.length
        · obtain ⟨ba, oa, ra, rfl, hba, ca, hra⟩ := at_kf HP4.out k' hlt'
          obtain ⟨bq, oq, rq, rfl, hbq, cq, hrq⟩ := at_kf HQ.out k' (by have := HL2.out; have := HL4.out; omega)
          have na := HOK.out.nnl k'
          have nq := HOQ.out.nnl k'
          obtain rfl := FV_nn hra na
          obtain rfl := FV_nn hrq nq
          obtain ⟨p, hp⟩ : ∃ p, ps.getD k' 0 = p := ⟨_, rfl⟩
          obtain ⟨q, hq⟩ : ∃ q, qs.getD k' 0 = q := ⟨_, rfl⟩
          rw [hp] at ca na hra
          rw [hq] at cq nq hrq
          have da := (bc HJ2.out ba (oa + k') hba).trans ca
          have dq := (bc HJ2.out bq (oq + k') hbq).trans cq
          have l0 := Nat.lt_of_lt_of_le hba HJ2.out.size
          have l1 := Nat.lt_of_lt_of_le hbq HJ2.out.size
          have HPQ := Lib.hid (And.intro hp hq)
          have HMIN := Lib.hid (show FV (min p q) (min p q) from nn_FV (by unfold nn at *; omega))
          have HMAX := Lib.hid (show FV (max p q) (max p q) from nn_FV (by unfold nn at *; omega))
          have hmin := fun ts t w => run_minN (P := Try.prog) na nq ts t w
          have hmax := fun ts t w => run_maxN (P := Try.prog) na nq ts t w
          have x1 : (k' : Int) < (ps.length : Int) := by omega
          have x2 : (0 : Int) ≤ (k' : Int) := by omega
          have x3 : (k' : Int) < (qs.length : Int) := by have := HL2.out; have := HL4.out; omega
          have HLL := Lib.hid (show (lowsL ps qs k').length ≤ 1048576 by rw [lowsL_len]; omega)
          have HHL := Lib.hid (show (highsL ps qs k').length ≤ 1048576 by rw [highsL_len]; omega)
          have HCA := Lib.hid ca
          have HCQ := Lib.hid cq
          obtain ⟨wo, hwo⟩ : ∃ wo : World, wo = wr := ⟨_, rfl⟩
          subst hwo
          clear ca cq hra hrq hp hq
          go_wp2
          go_region_held3 (fun w' => w'.cell? ⟨ba, oa + k', none⟩ = some (.float .f32 p) ∧ w'.cell? ⟨bq, oq + k', none⟩ = some (.float .f32 q))
            (first | go_keep | exact ⟨(bc hb255 _ _ hba).trans HCA.out, (bc hb255 _ _ hbq).trans HCQ.out⟩)
            ((refine apF_step (w0 := w4) (by rfl) (.tmp 244) (.tmp 254) (by rfl) u29 (lowsL ps qs k') (min p q) (min p q) (by rfl) (by rfl) HMIN.out HL.out.drew (bdrew HJ2.out) HLL.out ?_; intro v255 w255 ho_ hb255 hg255 hat255; have HO255 := Lib.hid ho_; have HG255 := Lib.hid (And.intro hg255 hat255); clear ho_ hg255 hat255))
          have J3 := Lib.hid hb255
          have HHg := Lib.hid (FR.grown HH.out.drew HG255.out.1 HN.out)
          have HN2 : Hid (∀ j, v255.ownBlock = some j → some j ≠ u30.ownBlock) := Lib.hid (by
            intro j hj he
            rcases HG255.out.2 with hat | ⟨b', hb1, hb2⟩
            · exact HN.out j he.symm (hj.symm.trans hat)
            · rw [hb1] at hj; injection hj with hj
              have := HH.out.lt j he.symm
              have hb2' : wo.heap.size ≤ b' := hb2
              omega)
          have da2 := (bc hb255 ba (oa + k') hba).trans HCA.out
          have dq2 := (bc hb255 bq (oq + k') hbq).trans HCQ.out
          have l02 : ba < w255.heap.size := Nat.lt_of_lt_of_le hba hb255.size
          have l12 : bq < w255.heap.size := Nat.lt_of_lt_of_le hbq hb255.size
          clear hb255
          go_wp2
          go_region_held3 (fun w' => w'.cell? ⟨ba, oa + k', none⟩ = some (.float .f32 p) ∧ w'.cell? ⟨bq, oq + k', none⟩ = some (.float .f32 q))
            (first | go_keep | exact ⟨(bc hb267 _ _ hba).trans HCA.out, (bc hb267 _ _ hbq).trans HCQ.out⟩)
            ((refine apF_step (w0 := w4) (by rfl) (.tmp 256) (.tmp 266) (by rfl) u30 (highsL ps qs k') (max p q) (max p q) (by rfl) (by rfl) HMAX.out HHg.out.drew (bdrew J3.out) HHL.out ?_; intro v267 w267 ho_ hb267 hg267 hat267; have HO267 := Lib.hid ho_; have HG267 := Lib.hid (And.intro hg267 hat267); clear ho_ hg267 hat267))
          have HN3 : Hid (∀ j, v267.ownBlock = some j → some j ≠ v255.ownBlock) := Lib.hid (by
            intro j hj he
            rcases HG267.out.2 with hat | ⟨b', hb1, hb2⟩
            · exact HN2.out j he.symm (hj.symm.trans hat)
            · rw [hb1] at hj; injection hj with hj
              have := HO255.out.lt j he.symm
              have hb2' : w255.heap.size ≤ b' := hb2
              omega)
          have J4 := Lib.hid hb267
          have HA1 : Hid (FR w267 w4.heap.size v255 (lowsL ps qs (k' + 1))) := Lib.hid (by rw [lowsL_succ, HPQ.out.1, HPQ.out.2]; exact FR.grown HO255.out.drew HG267.out.1 HN2.out)
          have HA2 : Hid (FR w267 w4.heap.size v267 (highsL ps qs (k' + 1))) := Lib.hid (by rw [highsL_succ, HPQ.out.1, HPQ.out.2]; exact HO267.out)
          clear hb267 da dq da2 dq2 l0 l1 l02 l12 hmin hmax x1 x2 x3
          go_wp2
          go_roundw
          case rel => exact ⟨k' + 1, hlt', by go_num, HA1, HA2, HN3, J4⟩
          case measure => simp [intOf]; omega
        · obtain rfl : k' = ps.length := by omega
          obtain ⟨AL, cL, hvL, hcL, hCL⟩ := HL.out.reads
          obtain ⟨AH, cH, hvH, hcH, hCH⟩ := HH.out.reads
          subst hvL
          subst hvH
          have okL : OkP t (lowsL ps qs ps.length) := ⟨HOK.out.ht, isPts_ok (lowsL_pts HPV.out _) (by rw [lowsL_len]; exact HL2.out), HOK.out.up, isPts_nnL (lowsL_pts HPV.out _), by rw [lowsL_len]; exact HL2.out, HOK.out.n1, HOK.out.n8⟩
          have okH : OkP t (highsL ps qs ps.length) := ⟨HOK.out.ht, isPts_ok (highsL_pts HPV.out HQV.out _) (by rw [highsL_len]; exact HL2.out), HOK.out.up, isPts_nnL (highsL_pts HPV.out HQV.out _), by rw [highsL_len]; exact HL2.out, HOK.out.n1, HOK.out.n8⟩
          have hl1 := lowsL_le ps qs ps.length
          have hh1 := le_highsL (ps := ps) (qs := qs) (k := ps.length) rfl (by have := HL2.out; have := HL4.out; omega)
          obtain ⟨ls, hls⟩ : ∃ ls, lowsL ps qs ps.length = ls := ⟨_, rfl⟩
          obtain ⟨hs, hhs⟩ : ∃ hs, highsL ps qs ps.length = hs := ⟨_, rfl⟩
          rw [hls] at okL hl1 hCL hcL HL
          rw [hhs] at okH hh1 hCH hcH HH
          rw [hls, hhs]
          have hlp : 1 ≤ t.length := HOK.out.n1
          have f1 : fle (endV t ls) (endV t ps) = true := by
            rw [nn_fle okL.end_nn HOK.out.end_nn]
            exact decide_eq_true (alo_mono HOK.out.up HOK.out.nnl hl1.1 (t.length - 1) (by omega))
          have f2 : fle (endV t ps) (endV t hs) = true := by
            rw [nn_fle HOK.out.end_nn okH.end_nn]
            exact decide_eq_true (alo_mono HOK.out.up okH.nnl hh1.1 (t.length - 1) (by omega))
          have f3 : fle (endV t ls) (endV t qs) = true := by
            rw [nn_fle okL.end_nn HOQ.out.end_nn]
            exact decide_eq_true (alo_mono HOK.out.up HOQ.out.nnl hl1.2 (t.length - 1) (by omega))
          have f4 : fle (endV t qs) (endV t hs) = true := by
            rw [nn_fle HOQ.out.end_nn okH.end_nn]
            exact decide_eq_true (alo_mono HOK.out.up okH.nnl hh1.2 (t.length - 1) (by omega))
          have HKL := Lib.hid okL
          have HKH := Lib.hid okH
          have HLE := Lib.hid (show leL ls hs from leL_trans hl1.1 hh1.1)
          have HCL := Lib.hid hCL
          have HCH := Lib.hid hCH
          clear okL okH hl1 hh1 hCL hCH hls hhs HL HH HN
          go_wp2_with fail
          go_at_call 17
          refine (boundsI_ok HKL.out HKH.out HLE.out (Kd.C_below HT4.out HJ2.out) HCL.out hcL HCH.out hcH).mono ?_
          rintro e wa ⟨rfl, hba⟩
          have HJ3 := Lib.hid (bstep HJ2.out hba)
          go_wp2_with fail
          go_at_call 16
          refine (boundsS_ok HKL.out HKH.out HLE.out (Kd.C_below HT4.out HJ3.out) (Kd.C_below HCL.out hba) (Kd.C_below HCH.out hba)).mono ?_
          rintro e wb ⟨rfl, hbb⟩
          have HJ4 := Lib.hid (bstep HJ3.out hbb)
          clear hba hbb
          go_wp2_with fail
          go_at_call 12
          refine (playAtI_ok HOQ.out (Kd.C_below HT4.out HJ4.out) (Kd.C_below HQ.out HJ4.out) hc4).mono ?_
          rintro e wc ⟨rfl, hbc⟩
          have HJ5 := Lib.hid (bstep HJ4.out hbc)
          clear hbc
          go_wp2_with (go_at_call 29; refine (sameNumber_self _ _).mono ?_; rintro e w' ⟨rfl, rfl⟩)
          go_ret
          exact ⟨rfl, bstep k4 HJ5.out⟩
end Go.Proofs.Ytpkmmelinfcdaaa
