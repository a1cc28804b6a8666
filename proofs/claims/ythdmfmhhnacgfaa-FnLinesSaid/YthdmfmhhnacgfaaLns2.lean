/- FnLines: the walk. -/
import Derived.Test.YthdmfmhhnacgfaaLns
namespace Go.Proofs.Ythdmfmhhnacgfaa
open Go.RowKit Ieee
open Go.Proofs.YthdmfmhhnacgfaaW.PrintWords
set_option maxRecDepth 100000
attribute [local irreducible] wpRel
/-- The last twist in its place. -/
theorem lastK {w : World} {A : Option Addr} {l : List (Nat × Nat)} {q m : Nat} (h : Kd.C kf w A l.length (twL l q l.length)) (hm : l.length = m + 1) :
    ∃ b off r, A = some ⟨b, off, none⟩ ∧ b < w.heap.size ∧ w.cell? ⟨b, off + m, none⟩ = some (.float .f32 r) ∧ FV r (lastV l q) := by
  obtain ⟨b, off, r, e, hb, hc, hr⟩ := at_kf h m (by omega)
  rw [twL_get _ _ (by omega)] at hr
  refine ⟨b, off, r, e, hb, hc, ?_⟩
  unfold lastV
  rw [hm]
  exact hr
/-- How often swings have different signs, as told. -/
def CrK (n : Nat) (k cd : Int) : Prop := (0 ≤ k ∧ k < n ∧ cd = 0) ∨ (k = 0 ∧ cd = 4)
theorem crK_of {l : List (Nat × Nat)} {q : Nat} (hl : lineOk l = true) (hq : amountL q = true) : ∃ k cd, crsO l q = (k, cd) ∧ CrK l.length k cd := by
  rcases crsO_law hl hq with ⟨k, hk, e⟩ | e
  · exact ⟨k, 0, e, .inl ⟨by omega, by omega, rfl⟩⟩
  · exact ⟨0, 4, e, .inr ⟨rfl, rfl⟩⟩
set_option maxHeartbeats 16000000 in
theorem lines_walk (A B : Option Addr) (c c' : Nat) (xs ys : List Int) (w : World) (hA : Bytes w A xs) (hB : Bytes w B ys) (hx : xs.length ≤ 3000) (hy : ys.length ≤ 3000) :
    Calls Try.prog 3 #[.slice A xs.length c, .slice B ys.length c'] w fun e w' => e = .returned (.bool true) ∧ Below w.heap.size w w' := by
  have HA := Lib.hid hA
  have HB := Lib.hid hB
  clear hA hB
  have HF := Lib.hid (a2Long_at A B xs.length c ys.length c' false (by simp; omega) (by omega) (by omega))
  go_enter Try.func3, Try.ntmps3
  go_wp2_with (go_at_call 4; refine (HF.out _).mono ?_; rintro e w' ⟨rfl, rfl⟩)
  go_at_call 5
  refine (a2Line_any A c xs _ HA.out).mono ?_
  rintro e w1 ⟨v1, l, rfl, hR, h2, h5, hd, hb1⟩
  obtain ⟨A1, c1, rfl, hc1, hC1⟩ := hR.reads
  have HD := Lib.hid hd
  have HL := Lib.hid (drawnL_ok hd h2 (by omega))
  have HB1 := Lib.hid (HB.out.below hb1)
  have HC := Lib.hid hC1
  clear hR hC1 hd HF HB
  go_wp2_with fail
  go_at_call 6
  refine (a2At_any B c' ys _ HB1.out 0 (by omega) 200 (by omega) (by omega)).mono ?_
  rintro e w' ⟨⟨v, rfl, hv0, hv1⟩, rfl⟩
  go_wp2_with ((refine wpList_fop (o := ⟨some 47, _, _, _, _, _⟩) rfl rfl (by first | exact .inl rfl | exact .inr (.inl rfl) | exact .inr (.inr (.inl rfl)) | exact .inr (.inr (.inr rfl))) rfl rfl ?_; intro r47 n47 h47); have HQ := Lib.hid (square_at hv0 hv1 h47); clear h47; obtain ⟨w2, hw2⟩ : ∃ w2, w2 = w1.drewN n47 := ⟨_, rfl⟩; have HC2 := Lib.hid (Kd.C_below HC.out (bdrewN (Below.refl _ _) n47)); have HB2 := Lib.hid (HB1.out.below (bdrewN (Below.refl _ _) n47)); have k2 := bdrewN hb1 n47; rw [← hw2] at HC2 HB2 k2 ⊢; clear hw2 HC HB1 hb1)
  go_at_call 7
  refine (answerI_ok A1 c1 l r47 _ HL.out HQ.out HC2.out).mono ?_
  rintro e w3 ⟨A3, c3, A4, c4, rfl, hC3, hC4, hb3⟩
  have H3 := Lib.hid hC3
  have H4 := Lib.hid hC4
  clear hC3 hC4
  go_wp2_with fail
  go_at_call 8
  refine (answerS_ok A1 c1 l r47 _ HL.out HQ.out (Kd.C_below HC2.out hb3)).mono ?_
  rintro e w5 ⟨A5, c5, A6, c6, rfl, hC5, hC6, hb5⟩
  have j5 := bstep hb3 hb5
  have H5 := Lib.hid hC5
  have H6 := Lib.hid hC6
  clear hC5 hC6
  go_wp2_with fail
  go_at_call 7
  refine (answerI_ok A1 c1 l 0 _ HL.out (amount_of (by omega)) (Kd.C_below HC2.out j5)).mono ?_
  rintro e w7 ⟨A7, c7, A8, c8, rfl, hC7, hC8, hb7⟩
  have j7 := bstep j5 hb7
  have H7 := Lib.hid hC7
  have H8 := Lib.hid hC8
  clear hC7 hC8
  obtain ⟨cr, cd, hcr, hK⟩ := crK_of HL.out HQ.out.1
  have hl7 : l.length ≤ 1048576 := by omega
  have HCI := Lib.hid (fun w h => (hcr ▸ crossings_impl A1 c1 l r47 w h hl7 : Calls Try.prog 9 #[.slice A1 l.length c1, .float .f32 r47] w (CrQ (cr, cd) w)))
  have HCS := Lib.hid (fun w h => (hcr ▸ crossings_spec A1 c1 l r47 w h hl7 : Calls Try.prog 10 #[.slice A1 l.length c1, .float .f32 r47] w (CrQ (cr, cd) w)))
  clear hcr
  go_wp2_with fail
  go_at_call 9
  refine (HCI.out _ (Kd.C_below HC2.out j7)).mono ?_
  rintro e w9 ⟨rfl, hb9⟩
  have j9 := bstep j7 hb9
  go_wp2_with fail
  go_at_call 10
  refine (HCS.out _ (Kd.C_below HC2.out j9)).mono ?_
  rintro e w10 ⟨rfl, hb10⟩
  have j10 := bstep j9 hb10
  have HV := Lib.hid (fun w h => validLine_impl A1 c1 l w h hl7)
  rw [HL.out] at HV
  clear HCI HCS
  go_wp2_with fail
  have g10 : Below w5.heap.size w5 w10 := bstep (bstep hb7 hb9) hb10
  go_at_call 11
  refine (a2Same_any A3 A5 c3 c5 l.length _ _ (Kd.C_below H3.out (bstep hb5 g10)) (Kd.C_below H5.out g10) (by omega)).mono ?_
  rintro e w11 ⟨rfl, hb11⟩
  have g11 := bstep g10 hb11
  go_wp2_with fail
  go_at_call 11
  refine (a2Same_any A4 A6 c4 c6 l.length _ _ (Kd.C_below H4.out (bstep hb5 g11)) (Kd.C_below H6.out g11) (by omega)).mono ?_
  rintro e w12 ⟨rfl, hb12⟩
  have g12 := bstep g11 hb12
  obtain ⟨b5, o5, r5, rfl, hl5, x5, f5⟩ := at_kf H5.out 0 (by omega)
  rw [swL_get _ _ (by omega)] at f5
  obtain rfl := FV_nn (show FV r5 1065353216 from f5) (by unfold nn; omega)
  have d5 := (bc g12 b5 (o5 + 0) hl5).trans x5
  rw [Nat.add_zero] at d5
  have fe1 : feq 1065353216 1065353216 = true := by decide
  have fe0 : feq 0 0 = true := by decide
  have y1 : (l.length : Int) ≠ 0 := by omega
  have y2 : l.length ≠ 0 := by omega
  have y3 : 0 < l.length := by omega
  have y4 : ((l.length : Int) == 0) = false := beq_false_of_ne y1
  have HC12 := Lib.hid (Kd.C_below HC2.out (bstep j5 g12))
  have HB12 := Lib.hid (HB2.out.below (bstep j5 g12))
  have k12 := bstep k2 (bstep j5 g12)
  have g7 : Below w7.heap.size w7 w12 := bstep (bstep (bstep (bstep hb9 hb10) hb11) hb12) (Below.refl _ _)
  have H7' := Lib.hid (Kd.C_below H7.out g7)
  have H8' := Lib.hid (Kd.C_below H8.out g7)
  clear H3 H4 H5 H6 H7 H8 hb3 hb5 hb7 hb9 hb10 hb11 hb12 j5 j7 j9 j10 g10 g11 g12 g7 f5 x5 HB2 HC2 k2
  obtain ⟨m, hm⟩ : ∃ m, l.length = m + 1 := ⟨l.length - 1, by omega⟩
  have hm1 : (l.length : Int) - 1 = (m : Int) := by omega
  have hm2 : (m : Int) < (l.length : Int) := by omega
  have hm3 : (0 : Int) ≤ (m : Int) := by omega
  have HM := Lib.hid hm
  clear hm
  rcases hK with ⟨hk0, hk1, rfl⟩ | ⟨rfl, rfl⟩
  all_goals
    go_wp2_with (go_at_call 12; refine (HV.out _ HC12.out).mono ?_; rintro e w13 ⟨rfl, hb13⟩)
    clear HV
    go_loopw [20] (fun i wr => ∃ k : Nat, k ≤ l.length ∧ i = .int .i64 k ∧ Hid (Below w12.heap.size w12 wr)) (fun i _ => l.length - (intOf i).toNat)
    case atStart => exact ⟨0, Nat.zero_le _, rfl, Lib.hid hb13⟩
    case round =>
      clear hb13 d5
      obtain ⟨k, hk, rfl, HJ⟩ := hrel
      by_cases hlt : k < l.length
      · obtain ⟨b7, o7, r7, rfl, hl7', x7, f7⟩ := at_kf H7'.out k hlt
        obtain ⟨b8, o8, r8, rfl, hl8, x8, f8⟩ := at_kf H8'.out k hlt
        rw [swL_get _ _ hlt, ans_rest HD.out k hlt] at f7
        rw [twL_get _ _ hlt, ans_rest HD.out k hlt] at f8
        obtain rfl := FV_nn (show FV r7 1065353216 from f7) (by unfold nn; omega)
        obtain rfl := FV_nn (show FV r8 0 from f8) (by unfold nn; omega)
        have d7 := (bc HJ.out b7 (o7 + k) hl7').trans x7
        have d8 := (bc HJ.out b8 (o8 + k) hl8).trans x8
        have z1 : (k : Int) < (l.length : Int) := by omega
        have z2 : (0 : Int) ≤ (k : Int) := by omega
        clear x7 x8 f7 f8
        go_wp2
        go_roundw
        case rel => exact ⟨k + 1, hlt, by go_num, HJ⟩
        case measure => simp [intOf]; omega
      · clear H7' H8'
        go_wp2_with fail
        go_at_call 6
        refine (a2At_any B c' ys _ (HB12.out.below HJ.out) 1 (by omega) 60 (by omega) (by omega)).mono ?_
        rintro e w' ⟨⟨u, rfl, hu0, hu1⟩, rfl⟩
        have hwu : IntKind.i64.wrap (1 + u) = 1 + u := IntWalk.i64_in _ (by omega)
        go_wp2_with ((refine wpList_fop (o := ⟨some 188, _, _, _, _, _⟩) rfl rfl (by first | exact .inl rfl | exact .inr (.inl rfl) | exact .inr (.inr (.inl rfl)) | exact .inr (.inr (.inr rfl))) rfl rfl ?_; intro r188 n188 h188); have HP := Lib.hid h188; clear h188; obtain ⟨wp, hwp⟩ : ∃ wp, wp = wr.drewN n188 := ⟨_, rfl⟩; have HJ1 := Lib.hid (bdrewN HJ.out n188); rw [← hwp] at HJ1 ⊢; clear hwp)
        go_at_call 6
        refine (a2At_any B c' ys _ (HB12.out.below HJ1.out) 2 (by omega) 250 (by omega) (by omega)).mono ?_
        rintro e w' ⟨⟨v2, rfl, hv20, hv21⟩, rfl⟩
        have hwv : IntKind.i64.wrap (1 + v2) = 1 + v2 := IntWalk.i64_in _ (by omega)
        go_wp2_with (first | ((refine wpList_fop (o := ⟨some 194, _, _, _, _, _⟩) rfl rfl (by first | exact .inl rfl | exact .inr (.inl rfl) | exact .inr (.inr (.inl rfl)) | exact .inr (.inr (.inr rfl))) rfl rfl ?_; intro r194 n194 h194); have HP2 := Lib.hid h194; clear h194) | ((refine wpList_fop (o := ⟨some 195, _, _, _, _, _⟩) rfl rfl (by first | exact .inl rfl | exact .inr (.inl rfl) | exact .inr (.inr (.inl rfl)) | exact .inr (.inr (.inr rfl))) rfl rfl ?_; intro r195 n195 h195); have HBT := Lib.hid (lohi_at hu0 hu1 hv20 hv21 HP.out HP2.out h195); clear h195; obtain ⟨wq, hwq⟩ : ∃ wq, wq = (wp.drewN n194).drewN n195 := ⟨_, rfl⟩; have HJ2 := Lib.hid (bdrewN (bdrewN HJ1.out n194) n195); rw [← hwq] at HJ2 ⊢; clear hwq))
        have hlo : r188 ≤ 1233125376 := by have := HBT.out.lt; have := HBT.out.h1; omega
        have hhi : r195 ≤ 1233125376 := HBT.out.h1
        have HLI := Lib.hid (fun w h => lone_impl A1 c1 l r188 r195 w h hl7 (by omega) (by omega))
        have HLS := Lib.hid (fun w h => lone_spec A1 c1 l r188 r195 w h hl7 (by omega) (by omega))
        have aLo := Lib.hid (amount_of hlo)
        have aHi := Lib.hid (amount_of hhi)
        rcases lone_law HL.out HBT.out with ⟨hap, ho⟩ | ⟨hap, mm, ho, hm0, hm1', hsg⟩
        · rw [ho] at HLI HLS
          have HAP := Lib.hid hap
          clear ho hap
          go_at_call 13
          refine (HLI.out _ (Kd.C_below HC12.out HJ2.out)).mono ?_
          rintro e wa ⟨ra, rfl, hra, hba⟩
          obtain rfl := FV_nn (show FV ra 0 from hra) (by unfold nn; omega)
          have HJ3 := Lib.hid (bstep HJ2.out hba)
          clear hba hra
          go_wp2_with fail
          go_at_call 14
          refine (HLS.out _ (Kd.C_below HC12.out HJ3.out)).mono ?_
          rintro e wb ⟨rb, rfl, hrb, hbb⟩
          obtain rfl := FV_nn (show FV rb 0 from hrb) (by unfold nn; omega)
          have HJ4 := Lib.hid (bstep HJ3.out hbb)
          clear hbb hrb
          go_wp2_with (go_at_call 15; refine (sameN_self _ _).mono ?_; rintro e w' ⟨rfl, rfl⟩)
          go_at_call 8
          refine (answerS_ok A1 c1 l r188 _ HL.out aLo.out (Kd.C_below HC12.out HJ4.out)).mono ?_
          rintro e wc ⟨A9, c9, A10, c10, rfl, hC9, hC10, hbc⟩
          have HJ5 := Lib.hid (bstep HJ4.out hbc)
          obtain ⟨bx, ox, rx, rfl, hlx, cx, fx⟩ := lastK hC10 HM.out
          clear hbc hC9 hC10
          go_wp2_with fail
          go_at_call 8
          refine (answerS_ok A1 c1 l r195 _ HL.out aHi.out (Kd.C_below HC12.out HJ5.out)).mono ?_
          rintro e wd ⟨A11, c11, A12, c12, rfl, hC11, hC12, hbd⟩
          have HJ6 := Lib.hid (bstep HJ5.out hbd)
          obtain ⟨bY, oY, rY, rfl, hlY, cY, fY⟩ := lastK hC12 HM.out
          have dx := (bc hbd bx (ox + m) hlx).trans cx
          have hs := signs_no fx fY HAP.out
          clear hbd hC11 hC12 cx fx fY
          rcases hs with ⟨q1, q2, q3⟩ | ⟨q1, q2, q3⟩ | ⟨q1, q2⟩
          all_goals
            go_wp2
            go_ret
            exact ⟨rfl, bstep k12 HJ6.out⟩
        · rw [ho] at HLI HLS
          have HAP := Lib.hid hap
          have HSG := Lib.hid hsg
          have nmm : nn mm := by unfold nn; omega
          have aMm := Lib.hid (amount_of (x := mm) (by omega))
          have n1 : fle r188 mm = true := by rw [nn_fle (by unfold nn; omega) nmm]; exact decide_eq_true hm0
          have n2 : flt mm r195 = true := by rw [nn_flt nmm (by unfold nn; omega)]; exact decide_eq_true hm1'
          clear ho hap hsg
          go_at_call 13
          refine (HLI.out _ (Kd.C_below HC12.out HJ2.out)).mono ?_
          rintro e wa ⟨ra, rfl, hra, hba⟩
          obtain rfl := FV_nn (show FV ra mm from hra) nmm
          have HJ3 := Lib.hid (bstep HJ2.out hba)
          clear hba hra
          go_wp2_with fail
          go_at_call 14
          refine (HLS.out _ (Kd.C_below HC12.out HJ3.out)).mono ?_
          rintro e wb ⟨rb, rfl, hrb, hbb⟩
          obtain rfl := FV_nn (show FV rb ra from hrb) nmm
          have HJ4 := Lib.hid (bstep HJ3.out hbb)
          clear hbb hrb
          go_wp2_with (go_at_call 15; refine (sameN_self _ _).mono ?_; rintro e w' ⟨rfl, rfl⟩)
          go_at_call 8
          refine (answerS_ok A1 c1 l r188 _ HL.out aLo.out (Kd.C_below HC12.out HJ4.out)).mono ?_
          rintro e wc ⟨A9, c9, A10, c10, rfl, hC9, hC10, hbc⟩
          have HJ5 := Lib.hid (bstep HJ4.out hbc)
          obtain ⟨bx, ox, rx, rfl, hlx, cx, fx⟩ := lastK hC10 HM.out
          clear hbc hC9 hC10
          go_wp2_with fail
          go_at_call 8
          refine (answerS_ok A1 c1 l r195 _ HL.out aHi.out (Kd.C_below HC12.out HJ5.out)).mono ?_
          rintro e wd ⟨A11, c11, A12, c12, rfl, hC11, hC12, hbd⟩
          have HJ6 := Lib.hid (bstep HJ5.out hbd)
          obtain ⟨bY, oY, rY, rfl, hlY, cY, fY⟩ := lastK hC12 HM.out
          have dx := (bc hbd bx (ox + m) hlx).trans cx
          have hlx' := Nat.lt_of_lt_of_le hlx hbd.size
          have HFX := Lib.hid (And.intro fx fY)
          clear hbd hC11 hC12 cx fx fY
          rcases signs_yes HFX.out.1 HFX.out.2 HAP.out with ⟨q1, q2⟩ | ⟨q1, q2, q3⟩
          all_goals
            go_wp2_with fail
            go_at_call 7
            refine (answerI_ok A1 c1 l rb _ HL.out aMm.out (Kd.C_below HC12.out HJ6.out)).mono ?_
            rintro e we ⟨A13, c13, A14, c14, rfl, hC13, hC14, hbe⟩
            obtain ⟨bZ, oZ, rZ, rfl, hlZ, cZ, fZ⟩ := lastK hC14 HM.out
            obtain ⟨p1, p2⟩ := sign_there HFX.out.1 fZ HSG.out (apart_sgn HAP.out).2
            rw [q1] at p1
            have HJ7 := Lib.hid (bstep HJ6.out hbe)
            clear hbe hC13 hC14 fZ
            go_wp2
            go_ret
            exact ⟨rfl, bstep k12 HJ7.out⟩
end Go.Proofs.Ythdmfmhhnacgfaa
