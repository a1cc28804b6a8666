/- FnYears: the walk. -/
import Derived.Test.YtgdaompppclnlaaYrs
import Derived.BigQuiet
import Derived.Deep.QuietTactic
namespace Go.Proofs.Ytgdaompppclnlaa
open Go.RowKit Ieee
open Go.Proofs.YtgdaompppclnlaaW.PrintWords
set_option maxRecDepth 100000
attribute [local irreducible] wpRel
theorem lim_at {v : Int} {r : Nat} (h0 : 0 ≤ v) (h1 : v < 17) (h : FV r (fop .quo (cn (fi v)) (cn 1098907648))) : r ≤ 1065353216 := by
  have p1 := pick_part (n := 16) h0 (by omega) (show fi 16 = 1098907648 by decide) (by decide) (by decide)
  rw [cn_of_not (fi_isn _), show cn 1098907648 = 1098907648 by decide] at h
  have h' : FV r (fdiv (fi v) 1098907648) := h
  rw [FV_nn h' p1.nn]
  exact p1
set_option maxHeartbeats 16000000 in
theorem years_walk (A B : Option Addr) (c c' : Nat) (zs ys : List Int) (w : World) (hA : Bytes w A zs) (hB : Bytes w B ys) (hx : zs.length ≤ 4096) (hy : ys.length ≤ 4096) :
    Calls Try.prog 3 #[.slice A zs.length c, .slice B ys.length c'] w fun e w' => e = .returned (.bool true) ∧ Below w.heap.size w w' := by
  have HA := Lib.hid hA
  have HB := Lib.hid hB
  clear hA hB
  go_enter Try.func3, Try.ntmps3
  go_wp2_with (go_at_call 4; refine (f6big_any _ _ _ (by omega) _).mono ?_; rintro e w' ⟨rfl, rfl⟩)
  go_at_call 5
  refine (p6Train_any A c zs _ HA.out).mono ?_
  rintro e w1 ⟨v1, t, rfl, hR, h1, h4, hd, hb1⟩
  obtain ⟨A1, c1, rfl, hc1, hC1⟩ := hR.reads
  have HT := Lib.hid hC1
  have HD := Lib.hid hd
  clear hR hC1 hd
  go_wp2_with fail
  go_at_call 6
  refine (p6Teeth_any B A1 c' c1 t.length ys _ (HB.out.below hb1) (by omega)).mono ?_
  rintro e w2 ⟨v2, l, rfl, hR2, hl2, hd2, hb2⟩
  obtain ⟨A2, c2, hv2, _, hC2⟩ := hR2.reads
  have hC2' : Kd.C kT w2 A2 l.length l := hC2
  rw [hl2] at hv2 hC2'
  subst hv2
  have HL := Lib.hid hC2'
  have HLN := Lib.hid hl2
  have HDT := Lib.hid hd2
  have k2 := bstep hb1 hb2
  have HT2 := Lib.hid (Kd.C_below HT.out hb2)
  clear hR2 hC2 hC2' hl2 hd2 HT
  go_wp2_with fail
  go_at_call 7
  refine (p6Torques_any B c' ys _ (HB.out.below k2)).mono ?_
  rintro e w3 ⟨v3, xs, rfl, hR3, hx6, hdx, hb3⟩
  obtain ⟨A3, c3, rfl, _, hC3⟩ := hR3.reads
  have HX := Lib.hid hC3
  have HDX := Lib.hid hdx
  have k3 := bstep k2 hb3
  clear hR3 hC3 hdx
  go_wp2_with fail
  go_at_call 8
  refine (p6Pick_any A c zs 17 _ (HA.out.below k3) (by omega) (by omega)).mono ?_
  rintro e w4 ⟨v, rfl, hv0, hv1, hb4⟩
  go_wp2_with ((refine wpList_fop (o := ⟨some 64, _, _, _, _, _⟩) rfl rfl (by first | exact .inl rfl | exact .inr (.inl rfl) | exact .inr (.inr (.inl rfl)) | exact .inr (.inr (.inr rfl))) rfl rfl ?_; intro r64 n64 h64); have HLM := Lib.hid (lim_at hv0 hv1 h64); clear h64; obtain ⟨w5, hw5⟩ : ∃ w5, w4.drewN n64 = w5 := ⟨_, rfl⟩; have hb5 : Below w3.heap.size w3 w5 := hw5 ▸ bdrewN hb4 n64; rw [hw5]; clear hw5)
  have j5 := bstep hb3 hb5
  have k5 := bstep k3 hb5
  have HT5 := Lib.hid (Kd.C_below HT2.out j5)
  have HL5 := Lib.hid (Kd.C_below HL.out j5)
  have HX5 := Lib.hid (Kd.C_below HX.out hb5)
  have HOK := Lib.hid (show OkY t l r64 from ⟨HD.out, h1, h4, HDT.out, HLN.out, HLM.out⟩)
  clear hb1 hb2 hb3 hb4 hb5 j5 k2 k3 HT2 HL HX
  have hLl : (yrF t l xs r64 xs.length).2.length ≤ 832 := by
    have a1 := yrF_chg t l xs r64 xs.length
    have a2 := HLN.out
    have a3 : xs.length * l.length ≤ 6 * 4 := Nat.mul_le_mul hx6 (by omega)
    omega
  obtain ⟨L, hL⟩ : ∃ L, (yrF t l xs r64 xs.length).2 = L := ⟨_, rfl⟩
  obtain ⟨Du, hDu⟩ : ∃ D, (yrF t l xs r64 xs.length).1 = D := ⟨_, rfl⟩
  have HYI := Lib.hid (fun w h1 h2 h3 => (hL ▸ hDu ▸ yearI_ok (A := A1) (B := A2) (D := A3) (c := c1) (c' := c2) (d := c3) (n := t.length) (w := w) HOK.out HDX.out (by omega) HLN.out h1 h2 h3 : Calls Try.prog 9 #[.slice A1 t.length c1, .slice A2 t.length c2, .slice A3 xs.length c3, .float .f32 r64] w (YrK t.length Du L w)))
  have HYS := Lib.hid (fun w h1 h2 h3 => (hL ▸ hDu ▸ yearS_ok (A := A1) (B := A2) (D := A3) (c := c1) (c' := c2) (d := c3) (n := t.length) (w := w) HOK.out HDX.out (by omega) HLN.out h1 h2 h3 : Calls Try.prog 10 #[.slice A1 t.length c1, .slice A2 t.length c2, .slice A3 xs.length c3, .float .f32 r64] w (YrK t.length Du L w)))
  rw [hL] at hLl
  have HEL := Lib.hid hL
  have HED := Lib.hid hDu
  clear hL hDu
  go_wp2_with fail
  go_at_call 9
  refine (HYI.out _ HT5.out HL5.out HX5.out).mono ?_
  rintro e w7 ⟨A7, c7, A8, c8, rfl, hC7, hC8, hb7⟩
  have H7 := Lib.hid hC7
  have H8 := Lib.hid hC8
  clear hC7 hC8
  go_wp2_with fail
  go_at_call 10
  refine (HYS.out _ (Kd.C_below HT5.out hb7) (Kd.C_below HL5.out hb7) (Kd.C_below HX5.out hb7)).mono ?_
  rintro e w9 ⟨A9, c9, A10, c10, rfl, hC9, hC10, hb9⟩
  have H9 := Lib.hid hC9
  have H10 := Lib.hid hC10
  clear hC9 hC10 HYI HYS
  go_wp2_with fail
  go_at_call 11
  refine (count_any A10 c10 L.length L _ H10.out hLl).mono ?_
  rintro e w11 ⟨⟨na, nb, rfl, hna, hnb, hnab⟩, hb11⟩
  have hwab : IntKind.i64.wrap (na + nb) = (L.length : Int) := by rw [hnab]; exact IntWalk.i64_in _ (by omega)
  clear hnab
  go_wp2_with fail
  go_at_call 12
  refine (sameTeeth_any A7 A9 c7 c9 t.length Du _ (Kd.C_below H7.out (bstep hb9 hb11)) (Kd.C_below H9.out hb11) (by omega)).mono ?_
  rintro e w12 ⟨rfl, hb12⟩
  have g12 := bstep hb11 hb12
  go_wp2_with fail
  go_at_call 13
  refine (sameChanges_any A8 A10 c8 c10 L.length L _ (Kd.C_below H8.out (bstep hb9 g12)) (Kd.C_below H10.out g12) (by omega)).mono ?_
  rintro e w13 ⟨rfl, hb13⟩
  have g13 := bstep g12 hb13
  have f13 : Below w5.heap.size w5 w13 := bstep hb7 (bstep hb9 g13)
  have H9' := Lib.hid (Kd.C_below H9.out g13)
  have H10' := Lib.hid (Kd.C_below H10.out g13)
  have HT13 := Lib.hid (Kd.C_below HT5.out f13)
  have HL13 := Lib.hid (Kd.C_below HL5.out f13)
  have HX13 := Lib.hid (Kd.C_below HX5.out f13)
  have k13 := Lib.hid (bstep k5 f13)
  clear H7 H8 H9 H10 hb7 hb9 hb11 hb12 hb13 g12 g13 f13 HT5 HL5 HX5 k5
  go_wp2
  go_loopw [18, 19, 20] (fun nv at_ i wr => ∃ k An cn_, k ≤ xs.length ∧ nv = .slice An t.length cn_ ∧ at_ = .int .i64 ((yrF t l xs r64 k).2.length : Nat) ∧ i = .int .i64 (k : Nat) ∧ Hid (Kd.C kT wr An t.length (yrF t l xs r64 k).1) ∧ Hid (Below w13.heap.size w13 wr)) (fun _ _ i _ => xs.length - (intOf i).toNat)
  case atStart => exact ⟨0, A2, c2, Nat.zero_le _, rfl, rfl, rfl, HL13, Lib.hid (Below.refl _ _)⟩
  case round =>
    obtain ⟨k, An, cn_, hk, rfl, rfl, rfl, HN, HJ⟩ := hrel
    by_cases hlt : k < xs.length
    · obtain ⟨bx, ox, rx, rfl, hlx, cx, fx⟩ := at_kf HX13.out k hlt
      have dx := (bc HJ.out bx (ox + k) hlx).trans cx
      have x1 : (k : Int) < (xs.length : Int) := by omega
      have x2 : (0 : Int) ≤ (k : Int) := by omega
      have HFX := Lib.hid fx
      have HYK := Lib.hid (HOK.out.at HDX.out k)
      clear cx fx
      have hnl : (yrF t l xs r64 k).1.length = t.length := HYK.out.len
      have hsu1 : (yrF t l xs r64 (k + 1)).1 = weekL t (yrF t l xs r64 k).1 (xs.getD k 0) r64 (yrF t l xs r64 k).1.length := rfl
      have hsu2 : (yrF t l xs r64 (k + 1)).2.length = (yrF t l xs r64 k).2.length + (chgL 0 r64 (yrF t l xs r64 k).1 (yrF t l xs r64 k).1.length).length := by rw [yrF, List.length_append, chgL_num]
      have hget : ∀ j, j < (chgL 0 r64 (yrF t l xs r64 k).1 (yrF t l xs r64 k).1.length).length → L[(yrF t l xs r64 k).2.length + j]? = (chgL (k : Int) r64 (yrF t l xs r64 k).1 (yrF t l xs r64 k).1.length)[j]? := fun j hj => by
        rw [← HEL.out]
        exact yr_get hlt (by rw [chgL_num]; exact hj)
      have hLk : (yrF t l xs r64 k).2.length + (chgL 0 r64 (yrF t l xs r64 k).1 (yrF t l xs r64 k).1.length).length ≤ L.length := by
        rw [← hsu2, ← HEL.out]
        obtain ⟨zs', e⟩ := yr_grow t l xs r64 (k + 1) (xs.length - (k + 1))
        rw [show k + 1 + (xs.length - (k + 1)) = xs.length by omega] at e
        rw [e, List.length_append]
        omega
      have HS1 := Lib.hid hsu1
      have HS2 := Lib.hid hsu2
      clear hsu1 hsu2
      obtain ⟨nw, hnw⟩ : ∃ nw, (yrF t l xs r64 k).1 = nw := ⟨_, rfl⟩
      obtain ⟨nb0, hnb0⟩ : ∃ n, (yrF t l xs r64 k).2.length = n := ⟨_, rfl⟩
      rw [hnw] at HN HYK hnl hget hLk HS1 HS2
      rw [hnb0] at hget hLk HS2
      rw [hnb0]
      clear hnw hnb0
      obtain ⟨fw, hfw⟩ : ∃ f, chgL 0 r64 nw nw.length = f := ⟨_, rfl⟩
      obtain ⟨md, hmd⟩ : ∃ m, weekL t nw (xs.getD k 0) r64 nw.length = m := ⟨_, rfl⟩
      have HWI := Lib.hid (fun w h1 h2 => (hfw ▸ hmd ▸ weekI_ok (A := A1) (B := An) (c := c1) (c' := cn_) (n := t.length) (w := w) HYK.out HFX.out (HDX.out k) hnl h1 h2 : Calls Try.prog 14 #[.slice A1 t.length c1, .slice An t.length cn_, .float .f32 rx, .float .f32 r64] w (YrK t.length md fw w)))
      have HWS := Lib.hid (fun w h1 h2 => (hfw ▸ hmd ▸ weekS_ok (A := A1) (B := An) (c := c1) (c' := cn_) (n := t.length) (w := w) HYK.out HFX.out (HDX.out k) hnl h1 h2 : Calls Try.prog 15 #[.slice A1 t.length c1, .slice An t.length cn_, .float .f32 rx, .float .f32 r64] w (YrK t.length md fw w)))
      rw [hfw] at hget hLk HS2
      rw [hmd] at HS1
      have hfl : fw.length ≤ 832 := by omega
      have HFW := Lib.hid hfw
      have HGET := Lib.hid hget
      have HLK := Lib.hid hLk
      have HNL := Lib.hid hnl
      clear hfw hmd hget hLk hnl
      go_wp2_with fail
      go_at_call 14
      refine (HWI.out _ (Kd.C_below HT13.out HJ.out) HN.out).mono ?_
      rintro e wa ⟨A21, c21, A22, c22, rfl, hC21, hC22, hba⟩
      have dx2 := (bc hba bx (ox + k) (Nat.lt_of_lt_of_le hlx HJ.out.size)).trans dx
      have H21 := Lib.hid hC21
      have H22 := Lib.hid hC22
      clear hC21 hC22
      go_wp2_with fail
      go_at_call 15
      refine (HWS.out _ (Kd.C_below HT13.out (bstep HJ.out hba)) (Kd.C_below HN.out hba)).mono ?_
      rintro e wb ⟨A24, c24, A25, c25, rfl, hC24, hC25, hbb⟩
      have H24 := Lib.hid hC24
      have H25 := Lib.hid hC25
      clear hC24 hC25 HWI HWS dx dx2
      go_wp2_with fail
      go_at_call 12
      refine (sameTeeth_any A21 A24 c21 c24 t.length md _ (Kd.C_below H21.out hbb) H24.out (by omega)).mono ?_
      rintro e wd ⟨rfl, hbd⟩
      go_wp2_with fail
      go_at_call 13
      refine (sameChanges_any A22 A25 c22 c25 fw.length fw _ (Kd.C_below H22.out (bstep hbb hbd)) (Kd.C_below H25.out hbd) (by omega)).mono ?_
      rintro e we ⟨rfl, hbe⟩
      have q1 := bstep hbd hbe
      have HJe := Lib.hid (bstep HJ.out (bstep hba (bstep hbb q1)))
      have HNe := Lib.hid (Kd.C_below HN.out (bstep hba (bstep hbb q1)))
      have HMe := Lib.hid (Kd.C_below H24.out q1)
      have HFe := Lib.hid (Kd.C_below H25.out q1)
      have HLe := Lib.hid (Kd.C_below H10'.out HJe.out)
      clear H21 H22 H24 H25 hba hbb hbd hbe q1 HJ HN
      go_wp2
      go_loopw [19, 27, 28] (fun at_ kk i wr => ∃ j q a : Nat, j ≤ t.length ∧ q = (chgL 0 r64 nw j).length ∧ Hid (a = nb0 + q) ∧ at_ = .int .i64 (a : Nat) ∧ kk = .int .i64 (q : Nat) ∧ i = .int .i64 (j : Nat) ∧ Hid (Below we.heap.size we wr)) (fun _ _ i _ => t.length - (intOf i).toNat)
      case atStart => exact ⟨0, 0, nb0, Nat.zero_le _, rfl, Lib.hid rfl, rfl, rfl, rfl, Lib.hid (Below.refl _ _)⟩
      case round => as_aux_lemma =>
        obtain ⟨j, q, aa, hj, hq, HAA, rfl, rfl, rfl, HJ2⟩ := hrel
        have HQ := Lib.hid hq
        clear hq
        by_cases hlt2 : j < t.length
        · obtain ⟨bt, ot, r, p, q0, s, rfl, hbt, c0, cp, cq, cs, hxj, hr, hp, hq', h8⟩ := at_kT HNe.out j hlt2
          have htd := HYK.out.te j (by have := HNL.out; omega)
          have hside : s = 0 ∨ s = 1 := by have := htd.2.2.2; rw [hxj] at this; exact this
          have d0 := (bc HJ2.out bt (ot + j * 4) hbt).trans c0
          have d1 := (bc HJ2.out bt (ot + j * 4 + 1) hbt).trans cp
          have d2 := (bc HJ2.out bt (ot + j * 4 + 2) hbt).trans cq
          have d3 := (bc HJ2.out bt (ot + j * 4 + 3) hbt).trans cs
          have l0 := Nat.lt_of_lt_of_le hbt HJ2.out.size
          have hstep := chgL_step 0 r64 nw j
          have hget0 := fun hw => chgL_get 0 r64 nw (i := j) hw nw.length (by have := HNL.out; omega)
          have hget1 := fun hw => chgL_get (k : Int) r64 nw (i := j) hw nw.length (by have := HNL.out; omega)
          rw [chgL_num (k : Int)] at hget1
          rw [HFW.out] at hget0
          rw [← HQ.out] at hstep hget0 hget1
          have ep := flt_FVs HYK.out.FV (show FV p (cn p) from ⟨rfl, hp⟩)
          have eq := flt_FVs HYK.out.FV (show FV q0 (cn q0) from ⟨rfl, hq'⟩)
          have hwr8 : IntKind.i8.wrap (j : Int) = (j : Int) := by
            have : j = 0 ∨ j = 1 ∨ j = 2 ∨ j = 3 := by omega
            rcases this with rfl | rfl | rfl | rfl <;> decide
          have hww : ∃ bw bo : Bool, flt r64 (wearT (nw.getD j zT)) = bw ∧ flt r64 (wearV (nw.getD j zT).2.1 (nw.getD j zT).2.2.1 (1 - (nw.getD j zT).2.2.2)) = bo ∧ ((s = 0 ∧ flt r64 p = bw ∧ flt r64 q0 = bo) ∨ (s = 1 ∧ flt r64 q0 = bw ∧ flt r64 p = bo)) := by
            refine ⟨_, _, rfl, rfl, ?_⟩
            rw [hxj]
            rcases hside with rfl | rfl
            · exact .inl ⟨rfl, ep, eq⟩
            · exact .inr ⟨rfl, eq, ep⟩
          obtain ⟨bw, bo, hbw, hbo, hs2⟩ := hww
          rw [hbw] at hstep hget0 hget1
          rw [hbo, hwr8] at hget0 hget1
          have HST := Lib.hid hstep
          have z1 : (j : Int) < (t.length : Int) := by omega
          have z2 : (0 : Int) ≤ (j : Int) := by omega
          clear c0 cp cq cs hxj hr hp hq' h8 htd hside ep eq hbw hbo hwr8 hstep
          obtain ⟨wo, hwo⟩ : ∃ wo : World, wo = wr := ⟨_, rfl⟩
          cases bw
          · have hst : (chgL 0 r64 nw (j + 1)).length = q := by have := HST.out; simpa using this
            have HQ2 := Lib.hid hst.symm
            clear hget0 hget1 HST hst
            rcases hs2 with ⟨rfl, f1, f2⟩ | ⟨rfl, f1, f2⟩
            all_goals
              go_wp2
              go_quiet (fail)
              go_wp2
              go_quiet (fail)
              go_wp2
              go_roundw
              case rel => exact ⟨j + 1, q, aa, hlt2, HQ2.out, HAA, rfl, rfl, by go_num, by first | exact HJ2 | exact Lib.hid (bdrewN HJ2.out _)⟩
              case measure => simp [intOf]; omega
          · have g0 := hget0 rfl
            have g1 := hget1 rfl
            have hst : (chgL 0 r64 nw (j + 1)).length = q + 1 := by have := HST.out; simpa using this
            have HQ2 := Lib.hid hst.symm
            have hqf : q < fw.length := (List.getElem?_eq_some_iff.1 g0).1
            have g2 := (HGET.out q hqf).trans g1
            rw [← HAA.out] at g2
            have hql : aa < L.length := (List.getElem?_eq_some_iff.1 g2).1
            obtain ⟨bf_, of_, pf, qf, xf, rfl, hbf, c0, c1_, c2_, hxf, _⟩ := at_kC HFe.out q hqf
            obtain ⟨bl, ol, pl, ql, xl, rfl, hbl, e0, e1, e2, hxl, _⟩ := at_kC HLe.out aa hql
            rw [List.getD_eq_getElem?_getD, g0] at hxf
            rw [List.getD_eq_getElem?_getD, g2] at hxl
            obtain ⟨rfl, rfl, rfl⟩ : pf = 0 ∧ qf = (j : Int) ∧ bo = xf := by cases hxf; exact ⟨rfl, rfl, rfl⟩
            obtain ⟨rfl, rfl, rfl⟩ : pl = (k : Int) ∧ ql = (j : Int) ∧ bo = xl := by cases hxl; exact ⟨rfl, rfl, rfl⟩
            have m0 := (bc HJ2.out bf_ (of_ + q * 3) hbf).trans c0
            have m1 := (bc HJ2.out bf_ (of_ + q * 3 + 1) hbf).trans c1_
            have m2 := (bc HJ2.out bf_ (of_ + q * 3 + 2) hbf).trans c2_
            have n0 := (bc HJ2.out bl (ol + aa * 3) hbl).trans e0
            have n1 := (bc HJ2.out bl (ol + aa * 3 + 1) hbl).trans e1
            have n2 := (bc HJ2.out bl (ol + aa * 3 + 2) hbl).trans e2
            have y1 : (q : Int) < (fw.length : Int) := by omega
            have y2 : (0 : Int) ≤ (q : Int) := by omega
            have y3 : (aa : Int) < (L.length : Int) := by omega
            have y4 : (0 : Int) ≤ (aa : Int) := by omega
            have y5 : ¬ (fw.length : Int) ≤ (q : Int) := by omega
            have y6 : ¬ (L.length : Int) ≤ (aa : Int) := by omega
            have y7 : ¬ fw.length ≤ q := by omega
            have y8 : ¬ L.length ≤ aa := by omega
            clear c0 c1_ c2_ e0 e1 e2 hxf hxl g0 g1 g2 hget0 hget1 HST hst
            cases bo
            all_goals
              rcases hs2 with ⟨rfl, f1, f2⟩ | ⟨rfl, f1, f2⟩
            all_goals
              go_wp2
              go_quiet (fail)
              go_wp2
              go_quiet (fail)
              go_wp2
              go_quiet (fail)
              go_wp2
              go_roundw
              case rel => exact ⟨j + 1, q + 1, aa + 1, hlt2, HQ2.out, Lib.hid (by rw [HAA.out]; omega), by go_num, by go_num, by go_num, by first | exact HJ2 | exact Lib.hid (bdrewN HJ2.out _)⟩
              case measure => simp [intOf]; omega
        · have hjn : j = t.length := by omega
          have hqf : q = fw.length := by
            have h1 := HQ.out
            rw [hjn, ← HNL.out, HFW.out] at h1
            exact h1
          have hat : (yrF t l xs r64 (k + 1)).2.length = aa := by rw [HAA.out, hqf]; exact HS2.out
          have hqf2 : (q : Int) = (fw.length : Int) := by omega
          have HAT := Lib.hid hat
          have HMn := Lib.hid (show Kd.C kT wr A24 t.length (yrF t l xs r64 (k + 1)).1 from by rw [HS1.out]; exact Kd.C_below HMe.out HJ2.out)
          have HJn := Lib.hid (bstep HJe.out HJ2.out)
          clear hjn hqf hat
          go_wp2
          go_roundw
          case rel => exact ⟨k + 1, A24, c24, hlt, rfl, by rw [HAT.out], by go_num, HMn, HJn⟩
          case measure => simp [intOf]; omega
    · as_aux_lemma =>
      have hkn : k = xs.length := by omega
      subst hkn
      rw [HED.out] at HN
      rw [HEL.out]
      have hxz : ¬ ((xs.length : Int) < (xs.length : Int)) := by omega
      go_wp2_with fail
      go_at_call 12
      refine (sameTeeth_any An A9 cn_ c9 t.length Du _ HN.out (Kd.C_below H9'.out HJ.out) (by omega)).mono ?_
      rintro e wa ⟨rfl, hba⟩
      have HJa := Lib.hid (bstep HJ.out hba)
      clear HN HJ hba H9' H10'
      go_wp2_with fail
      go_at_call 16
      refine (playsI_ok HOK.out HLN.out (Kd.C_below HT13.out HJa.out) (Kd.C_below HL13.out HJa.out)).mono ?_
      rintro e wb ⟨Ab, cb, rfl, hCb, hbb⟩
      have Hb := Lib.hid hCb
      have HJb := Lib.hid (bstep HJa.out hbb)
      clear hCb HJa hbb
      go_wp2_with fail
      go_at_call 17
      refine (playsS_ok HOK.out HLN.out (Kd.C_below HT13.out HJb.out) (Kd.C_below HL13.out HJb.out)).mono ?_
      rintro e wc ⟨Ac, cc, rfl, hCc, hbc⟩
      have Hc := Lib.hid hCc
      have Hb2 := Lib.hid (Kd.C_below Hb.out hbc)
      have HJc := Lib.hid (bstep HJb.out hbc)
      clear hCc HJb hbc Hb
      go_wp2_with fail
      go_at_call 8
      refine (p6Pick_any B c' ys 40 _ (HB.out.below (bstep k13.out HJc.out)) (by omega) (by omega)).mono ?_
      rintro e wd ⟨v2, rfl, hv20, hv21, hbd⟩
      go_wp2_with ((refine wpList_fop (o := ⟨some 317, _, _, _, _, _⟩) rfl rfl (by first | exact .inl rfl | exact .inr (.inl rfl) | exact .inr (.inr (.inl rfl)) | exact .inr (.inr (.inr rfl))) rfl rfl ?_; intro r317 n317 h317); have HTQ := Lib.hid (torq_at hv20 (by omega) h317); clear h317; obtain ⟨we, hwe⟩ : ∃ we, wd.drewN n317 = we := ⟨_, rfl⟩; have hbe : Below wc.heap.size wc we := hwe ▸ bdrewN hbd n317; rw [hwe]; clear hwe)
      obtain ⟨x, hxe⟩ : ∃ x, fdiv (fi v2) 1082130432 = x := ⟨_, rfl⟩
      rw [hxe] at HTQ
      obtain ⟨r, hr104, hqw, hq0, hq1⟩ := qwF_law t x r64 104 0 l
      have hqw' : qwF t x r64 104 0 l = (r : Int) := by rw [hqw]; simp
      have HQW := Lib.hid hqw'
      have HQ0 := Lib.hid hq0
      have HQ1 := Lib.hid hq1
      have HJe := Lib.hid (bstep HJc.out hbe)
      have Hb3 := Lib.hid (Kd.C_below Hb2.out hbe)
      have Hc3 := Lib.hid (Kd.C_below Hc.out hbe)
      clear hxe hqw hqw' hq0 hq1 hbd hbe HJc Hb2 Hc
      go_at_call 18
      refine (quietI_ok HOK.out HTQ.out.2.1 HTQ.out.2.2 HQW.out HLN.out (Kd.C_below HT13.out HJe.out) (Kd.C_below HL13.out HJe.out)).mono ?_
      rintro e wf ⟨rfl, hbf⟩
      have HJf := Lib.hid (bstep HJe.out hbf)
      go_wp2_with fail
      go_at_call 19
      refine (quietS_ok HOK.out HTQ.out.2.1 HTQ.out.2.2 HQW.out HLN.out (Kd.C_below HT13.out HJf.out) (Kd.C_below HL13.out HJf.out)).mono ?_
      rintro e wg ⟨rfl, hbg⟩
      have HJg := Lib.hid (bstep HJf.out hbg)
      have r1 : ¬ (r : Int) < 0 := by omega
      have r2 : ¬ (104 : Int) < (r : Int) := by omega
      go_wp2_with (go_at_call 20; refine (sameNums_any Ab Ac cb cc t.length (l.map wearT) _ (Kd.C_below Hb3.out (bstep hbf hbg)) (Kd.C_below Hc3.out (bstep hbf hbg)) (by omega)).mono ?_; rintro e wh ⟨rfl, hbh⟩; have HJh := Lib.hid (bstep HJg.out hbh); clear hbf hbg hbh Hb3 Hc3 HJg HJf HJe)
      have HE : Hid (FR (wh.alloc (.cells #[] 31)) w13.heap.size (.slice (some ⟨wh.heap.size, 0, none⟩) 0 0) (List.replicate 0 x)) := Lib.hid (FR.empty (w := wh.alloc (.cells #[] 31)) w13.heap.size wh.heap.size (heap_alloc_new wh _) HJh.out.size)
      have HB1 : Hid (Below w13.heap.size w13 (wh.alloc (.cells #[] 31))) := Lib.hid (balloc HJh.out _)
      go_loopw [40, 41] (fun v i wr => ∃ k : Nat, k ≤ r ∧ i = .int .i64 k ∧ Hid (FR wr w13.heap.size v (List.replicate k x)) ∧ Hid (Below w13.heap.size w13 wr)) (fun _ i _ => r - (intOf i).toNat)
      case atStart => exact ⟨0, Nat.zero_le _, rfl, HE, HB1⟩
      case round =>
        clear HE HB1 HJh
        obtain ⟨k, hk, rfl, H1, HJ⟩ := hrel
        by_cases hlt : k < r
        · have HLL := Lib.hid (show (List.replicate k x).length ≤ 1048576 by rw [List.length_replicate]; omega)
          go_wp2_with (at_builtin; go_must (refine apF (w0 := w13) (o := ⟨some 378, _, _, _, _, _⟩) rfl (.tmp 375) (.tmp 377) rfl u40 (List.replicate k x) x r317 ?cy378 ?cx378 HTQ.out.2.1 H1.out HJ.out HLL.out ?_; (case cy378 => rfl); (case cx378 => go_simp); intro v378 w378 ho_ hb378 hg_ hat_; have HO378 := Lib.hid ho_; have HB378 := Lib.hid hb378; clear ho_ hg_ hat_ hb378))
          go_roundw
          case rel => exact ⟨k + 1, hlt, by go_num, Lib.hid (by rw [List.replicate_succ']; exact HO378.out), HB378⟩
          case measure => simp [intOf]; omega
        · obtain rfl : k = r := by omega
          obtain ⟨As, cs_, hvs, _, hCs⟩ := H1.out.reads
          have hvs' : u40 = .slice As (List.replicate k x).length cs_ := hvs
          have hCs' : Kd.C kf wr As (List.replicate k x).length (List.replicate k x) := hCs
          rw [List.length_replicate] at hvs' hCs'
          subst hvs'
          have HCS := Lib.hid hCs'
          have hY1 := fun w h1 h2 h3 => yearI_ok (A := A1) (B := A2) (D := As) (c := c1) (c' := c2) (d := cs_) (n := t.length) (w := w) HOK.out (drawnX_rep HTQ.out.2.2 k) (by rw [List.length_replicate]; omega) HLN.out h1 h2 h3
          rw [List.length_replicate, yr_quiet (N := k) (Nat.le_refl _) HQ0.out k (Nat.le_refl _)] at hY1
          have HY1 := Lib.hid hY1
          clear hCs hCs' hY1 hvs
          go_wp2_with fail
          go_at_call 9
          refine (HY1.out _ (Kd.C_below HT13.out HJ.out) (Kd.C_below HL13.out HJ.out) HCS.out).mono ?_
          rintro e wi ⟨Ai, ci, Ai', ci', rfl, _, _, hbi⟩
          by_cases h104 : k = 104
          · have e104 : (k : Int) = 104 := by omega
            go_wp2
            go_ret
            exact ⟨rfl, bstep k13.out (bstep HJ.out hbi)⟩
          · have e104 : ¬ (k : Int) = 104 := by omega
            have hch := yr_loud HQ0.out (by rcases HQ1.out with h | h; exact absurd h h104; exact h)
            have H2 := Lib.hid (H1.out.below hbi)
            have HJi := Lib.hid (bstep HJ.out hbi)
            have HLL := Lib.hid (show (List.replicate k x).length ≤ 1048576 by rw [List.length_replicate]; omega)
            clear H1 HY1 hbi HJ
            go_wp2_with (at_builtin; go_must (refine apF (w0 := w13) (o := ⟨some 403, _, _, _, _, _⟩) rfl (.tmp 400) (.tmp 402) rfl (.slice As k cs_) (List.replicate k x) x r317 ?cy403 ?cx403 HTQ.out.2.1 ?co403 HJi.out HLL.out ?_; (case cy403 => rfl); (case cx403 => go_simp); (case co403 => exact H2.out); intro v403 w403 ho_ hb403 hg_ hat_; have HO403 := Lib.hid ho_; have HB403 := Lib.hid hb403; clear ho_ hg_ hat_ hb403; obtain ⟨Ak, ck_, hvk, _, hCk⟩ := HO403.out.reads; rw [← List.replicate_succ'] at hvk hCk; have hvk' : v403 = .slice Ak (List.replicate (k + 1) x).length ck_ := hvk; have hCk' : Kd.C kf w403 Ak (List.replicate (k + 1) x).length (List.replicate (k + 1) x) := hCk; rw [List.length_replicate] at hvk' hCk'; subst hvk'; have HCK := Lib.hid hCk'; clear hvk hCk hCk'))
            have hY2 := fun w h1 h2 h3 => yearI_ok (A := A1) (B := A2) (D := Ak) (c := c1) (c' := c2) (d := ck_) (n := t.length) (w := w) HOK.out (drawnX_rep HTQ.out.2.2 (k + 1)) (by rw [List.length_replicate]; omega) HLN.out h1 h2 h3
            rw [List.length_replicate] at hY2
            obtain ⟨cs2, hcs2⟩ : ∃ cs, (yrF t l (List.replicate (k + 1) x) r64 (k + 1)).2 = cs := ⟨_, rfl⟩
            rw [hcs2] at hY2 hch
            have HY2 := Lib.hid hY2
            clear hY2 hcs2
            go_at_call 9
            refine (HY2.out _ (Kd.C_below HT13.out HB403.out) (Kd.C_below HL13.out HB403.out) HCK.out).mono ?_
            rintro e wj ⟨Aj, cj, Aj', cj', rfl, _, _, hbj⟩
            have hc1 : (0 : Int) < (cs2.length : Int) := by omega
            have hc2 : 0 < cs2.length := by omega
            go_wp2
            go_ret
            exact ⟨rfl, bstep k13.out (bstep HB403.out hbj)⟩
end Go.Proofs.Ytgdaompppclnlaa
