/- FnFactors: the walk. -/
import Derived.Test.YtggcajillncamaaBstP
namespace Go.Proofs.Ytggcajillncamaa
open Go.RowKit Ieee
open Go.Proofs.YtggcajillncamaaW.PrintWords
set_option maxRecDepth 100000
attribute [local irreducible] wpRel
set_option maxHeartbeats 16000000 in
theorem factors_walk (A B : Option Addr) (c c' : Nat) (xs ys : List Int) (w : World) (hA : Bytes w A xs) (hB : Bytes w B ys) (hx : xs.length ≤ 3000) (hy : ys.length ≤ 3000) :
    Calls Try.prog 3 #[.slice A xs.length c, .slice B ys.length c'] w fun e w' => e = .returned (.bool true) ∧ Below w.heap.size w w' := by
  have HA := Lib.hid hA
  have HB := Lib.hid hB
  clear hA hB
  have HF := Lib.hid (a2Long_at A B xs.length c ys.length c' false (by simp; omega) (by omega) (by omega))
  go_enter Try.func3, Try.ntmps3
  go_wp2_with (go_at_call 4; refine (HF.out _).mono ?_; rintro e w' ⟨rfl, rfl⟩)
  go_at_call 5
  refine (a2Box_any A c xs _ HA.out).mono ?_
  rintro e w1 ⟨v1, l, rfl, hR, hk, h6, hb1⟩
  obtain ⟨A1, c1, rfl, hc1, hC1⟩ := hR.reads
  have HK := Lib.hid hk
  have HB1 := Lib.hid (HB.out.below hb1)
  have HC := Lib.hid hC1
  clear hR hC1 hk HF HB
  go_wp2_with fail
  go_at_call 6
  refine (a2Target_any B c' ys _ HB1.out).mono ?_
  rintro e w2 ⟨rt, rfl, hrt, ht, hb2⟩
  have k2 := bstep hb1 hb2
  have HT := Lib.hid ht
  have HC2 := Lib.hid (Kd.C_below HC.out hb2)
  clear hb1 hb2 HC HB1 ht
  go_wp2_with fail
  go_at_call 7
  refine (afi_ok A1 c1 l _ HC2.out HK.out (by omega)).mono ?_
  rintro e w3 ⟨A3, c3, rfl, hC3, hb3⟩
  have k3 := bstep k2 hb3
  have H3 := Lib.hid hC3
  have HC3 := Lib.hid (Kd.C_below HC2.out hb3)
  clear hb3 k2 HC2 hC3
  go_wp2_with fail
  go_at_call 8
  refine (afs_ok A1 c1 l _ HC3.out HK.out (by omega)).mono ?_
  rintro e w4 ⟨A4, c4, rfl, hC4, hb4⟩
  have k4 := bstep k3 hb4
  have G3 := Lib.hid (Kd.C_below H3.out hb4)
  have G4 := Lib.hid hC4
  have HC4 := Lib.hid (Kd.C_below HC3.out hb4)
  clear hb4 k3 HC3 hC4 H3
  go_wp2_with fail
  go_at_call 9
  refine (wsI_ok A1 c1 l _ HC4.out HK.out (by omega)).mono ?_
  rintro e w5 ⟨rfl, hb5⟩
  go_wp2_with fail
  go_at_call 10
  refine (wsS_ok A1 c1 l _ (Kd.C_below HC4.out hb5) HK.out (by omega)).mono ?_
  rintro e w6 ⟨rfl, hb6⟩
  have j6 := bstep hb5 hb6
  have k6 := bstep k4 j6
  have P3 := Lib.hid (Kd.C_below G3.out j6)
  have P4 := Lib.hid (Kd.C_below G4.out j6)
  have HC6 := Lib.hid (Kd.C_below HC4.out j6)
  clear hb5 hb6 j6 k4 HC4 G3 G4
  obtain ⟨hw, h2, h24⟩ := allW_of HK.out
  have HFST := Lib.hid (show (allF l).getD (wP l - 1) 0 = wF l from rfl)
  have hF2 := allF_two HK.out
  have hF576 := allF_len (l := l) h24
  have HFN := Lib.hid (allF_nn hw)
  have HFA := Lib.hid (allF_asc hw)
  have HFP := Lib.hid (allF_pos hw)
  have HBL := Lib.hid (fbL_law HK.out)
  obtain ⟨hp1, hp2, hws, hst, hwg, hwn⟩ := ws_law HK.out
  have HST := Lib.hid hst
  have HWS := Lib.hid hws
  have HWN := Lib.hid hwn
  have HWG := Lib.hid (show flt 1065353216 (wW l) = true by rw [nn_flt (by unfold nn; omega) hwn]; exact decide_eq_true hwg)
  have HFBI := Lib.hid (fun w h => fbI_ok A1 c1 l w h HK.out (by omega))
  have HFBS := Lib.hid (fun w h => fbS_ok A1 c1 l w h HK.out (by omega))
  clear hst hws hwn hwg hw
  obtain ⟨F, hF⟩ : ∃ F, allF l = F := ⟨_, rfl⟩
  obtain ⟨P, hP⟩ : ∃ P, wP l = P := ⟨_, rfl⟩
  obtain ⟨W, hW⟩ : ∃ W, wW l = W := ⟨_, rfl⟩
  obtain ⟨G, hG⟩ : ∃ G, fbL l = G := ⟨_, rfl⟩
  obtain ⟨fst, hfst⟩ : ∃ x, wF l = x := ⟨_, rfl⟩
  rw [hF] at P3 P4 hF2 hF576 HFN HFA HFP HST HWS HFST hp2 HBL ⊢
  rw [hP] at hp1 hp2 HWS HFST
  rw [hW] at HST HWS HWN HWG ⊢
  rw [hG] at HBL HFBI HFBS
  rw [hfst] at HFST ⊢
  clear hF hP hW hG hfst
  have hwg := HWG.out
  have hF2' : ¬ ((F.length : Int) < 2) := by omega
  go_wp2_with (first | (go_at_call 11; refine (a2Same_any A3 A4 c3 c4 F.length F _ P3.out P4.out (by omega)).mono ?_; rintro e w7 ⟨rfl, hb7⟩) | (go_at_call 12; refine (sameN_self _ _).mono ?_; rintro e w' ⟨rfl, rfl⟩))
  have HC7 := Lib.hid (Kd.C_below HC6.out hb7)
  have P7 := Lib.hid (Kd.C_below P4.out hb7)
  have k7 := bstep k6 hb7
  clear hb7 k6 HC6 P3 P4 hF2' hwg
  go_loopw [17, 18] (fun f i wr => ∃ (k : Nat) (b : Bool), 1 ≤ k ∧ k ≤ F.length ∧ i = .int .i64 k ∧ f = .bool b ∧ Hid (P < k → b = true) ∧ Below w7.heap.size w7 wr) (fun _ i _ => F.length - (intOf i).toNat)
  case atStart => exact ⟨1, false, by omega, by omega, rfl, rfl, Lib.hid (fun h => by omega), Below.refl _ _⟩
  case round =>
    obtain ⟨k, b, hk1, hkn, rfl, rfl, HFD, hb⟩ := hrel
    by_cases hlt : k < F.length
    · obtain ⟨q, rfl⟩ : ∃ q, k = q + 1 := ⟨k - 1, by omega⟩
      have HCr := Lib.hid (Kd.C_below P7.out hb)
      obtain ⟨bk, off, rfl, hbl, d0, hn0⟩ := at_nn HCr.out HFN.out rfl q (by omega)
      have d1 := at_nn1 HCr.out HFN.out rfl (q + 1) hlt bk off rfl
      have hn1 : nn (F.getD (q + 1) 0) := HFN.out _ (getD_mem hlt)
      have hx01 := asc_lt HFA.out (show q < q + 1 by omega) hlt
      obtain ⟨hon, hoW⟩ := HST.out (q + 1) (by omega) hlt
      have hle : fle (F.getD (q + 1) 0) (F.getD q 0) = false := by rw [nn_fle hn1 hn0]; exact decide_eq_false (by omega)
      have hfw : flt W (stp F (q + 1)) = false := by rw [nn_flt HWN.out hon]; exact decide_eq_false (by omega)
      have HQ := Lib.hid (show fdiv (F.getD (q + 1) 0) (F.getD q 0) = stp F (q + 1) from rfl)
      have HON := Lib.hid hon
      have HEQ := Lib.hid (show q + 1 = P → F.getD q 0 = fst ∧ stp F (q + 1) = W from fun h => by subst h; exact ⟨HFST.out, HWS.out.symm⟩)
      have HNE := Lib.hid (show q + 1 ≠ P → same (F.getD q 0) fst = false from fun h => by
        have e : F.getD q 0 ≠ fst := by
          rw [← HFST.out]
          rcases Nat.lt_or_ge q (P - 1) with h1 | h1
          · have := asc_lt HFA.out h1 (by omega); omega
          · have := asc_lt HFA.out (show P - 1 < q by omega) (by omega); omega
        have hfn : nn fst := by rw [← HFST.out]; exact HFN.out _ (getD_mem (by omega))
        unfold same
        rw [nn_cn hn0, nn_cn hfn]
        exact decide_eq_false e)
      have HN01 := Lib.hid (And.intro hn0 hn1)
      obtain ⟨x0, hx0⟩ : ∃ x, F.getD q 0 = x := ⟨_, rfl⟩
      obtain ⟨x1, hx1⟩ : ∃ x, F.getD (q + 1) 0 = x := ⟨_, rfl⟩
      obtain ⟨own, ho⟩ : ∃ x, stp F (q + 1) = x := ⟨_, rfl⟩
      rw [hx0] at d0 hle HQ HEQ HNE HN01
      rw [hx1] at d1 hle HQ HN01
      rw [ho] at hfw HQ HON HEQ
      clear hx0 hx1 ho hn0 hn1 hx01 hon hoW
      have hl1 : (q : Int) + 1 < (F.length : Int) := by omega
      have hl0 : (q : Int) < (F.length : Int) := by omega
      have hp0 : (0 : Int) ≤ (q : Int) + 1 := by omega
      have hq0 : (0 : Int) ≤ (q : Int) := by omega
      have hwp : IntKind.i64.wrap ((q : Int) + 1 - 1) = (q : Int) := by rw [show ((q : Int) + 1 - 1) = (q : Int) from by omega]; exact IntWalk.i64_in _ (by omega)
      have hwp2 : IntKind.i64.wrap (((q + 1 : Nat) : Int) - 1) = (q : Int) := by rw [show (((q + 1 : Nat) : Int) - 1) = (q : Int) from by omega]; exact IntWalk.i64_in _ (by omega)
      have hwq : IntKind.i64.wrap (q : Int) = (q : Int) := IntWalk.i64_in _ (by omega)
      obtain ⟨wo, hwo⟩ : ∃ wo : World, wo = wr := ⟨_, rfl⟩
      subst hwo
      go_wp2
      first | refine region_drewN (DIs (.bool true)) (by kernel_rfl) (by kernel_rfl) ?_ | refine region_drew (DIs (.bool true)) (by kernel_rfl) (by kernel_rfl) ?_
      repeat (first | (refine wpRel_plain rfl (fun K hK => ?_); intro w' hw'; obtain ⟨n', rfl⟩ := hw'; go_simp; refine ⟨Drew.mk _ _, hK _ ?_⟩; clear hK K n') | (refine wpRel_step (fun K hK => ?_); go_simp; first | (refine hK _ ?_; clear hK K) | (intro w' hw'; obtain ⟨n', rfl⟩ := hw'; go_simp; refine ⟨Drew.mk _ _, hK _ ?_⟩; clear hK K n')) | (refine wpRel_step (o := ⟨some 134, _, _, _, _, _⟩) (fun K hK => ?_); refine if_wanted (by first | rfl | (go_simp; done) | (go_simp; rfl)) ?_; refine relOp_fop (drewN_Drew_closed _) rfl (by first | exact .inl rfl | exact .inr (.inl rfl) | exact .inr (.inr (.inl rfl)) | exact .inr (.inr (.inr rfl))) rfl rfl (fun r134 h134 => hK _ ?_); clear hK K))
      (refine wpRel_nil ?_; intro w' hw'; obtain ⟨nq, rfl⟩ := hw')
      obtain rfl : r134 = own := FV_nnS (by rw [nn_cn HN01.out.1, nn_cn HN01.out.2] at h134; rw [← HQ.out]; exact h134) HON.out
      have e0 := (bc (bdrewN (Below.refl wo.heap.size wo) nq) bk (off + q) hbl).trans d0
      have e1 := (bc (bdrewN (Below.refl wo.heap.size wo) nq) bk (off + (q + 1)) hbl).trans d1
      have k3 := bdrewN hb nq
      have hbl2 : bk < (wo.drewN nq).heap.size := hbl
      obtain ⟨w3, hw3⟩ : ∃ w3 : World, wo.drewN nq = w3 := ⟨_, rfl⟩
      rw [hw3] at k3 e0 e1 hbl2 ⊢
      clear hw3 hb d0 d1 h134 hbl HCr
      rw [hfw]
      clear hfw hle
      cases b
      · by_cases hP : q + 1 = P
        · obtain ⟨rfl, rfl⟩ := HEQ.out hP
          clear hP HEQ HNE
          go_wp2
          first | refine region_drewN (DIs (.bool true)) (by kernel_rfl) (by kernel_rfl) ?_ | refine region_drew (DIs (.bool true)) (by kernel_rfl) (by kernel_rfl) ?_
          repeat (first | (refine wpRel_plain rfl (fun K hK => ?_); intro w' hw'; obtain ⟨n', rfl⟩ := hw'; go_simp; refine ⟨Drew.mk _ _, hK _ ?_⟩; clear hK K n') | (refine wpRel_step (fun K hK => ?_); go_simp; first | (refine hK _ ?_; clear hK K) | (intro w' hw'; obtain ⟨n', rfl⟩ := hw'; go_simp; refine ⟨Drew.mk _ _, hK _ ?_⟩; clear hK K n')) | (refine wpRel_step (fun K hK => ?_); go_simp; intro w' hw'; obtain ⟨n', rfl⟩ := hw'; go_simp; refine ⟨?_, fun v hv => ?_⟩; (go_at_call 12; refine (sameN_self x0 _).mono ?_; rintro e w'' ⟨rfl, rfl⟩; exact ⟨_, rfl, rfl, Drew.mk _ _⟩); obtain rfl : v = _ := hv; (refine hK _ ?_; clear hK K n')) | (refine wpRel_step (o := ⟨some 157, _, _, _, _, _⟩) (fun K hK => ?_); refine if_wanted (by first | rfl | (go_simp; done) | (go_simp; rfl)) ?_; refine relOp_fop (drewN_Drew_closed _) rfl (by first | exact .inl rfl | exact .inr (.inl rfl) | exact .inr (.inr (.inl rfl)) | exact .inr (.inr (.inr rfl))) rfl rfl (fun r157 h157 => hK _ ?_); clear hK K))
          obtain rfl : r157 = r134 := FV_nnS (by rw [nn_cn HN01.out.1, nn_cn HN01.out.2] at h157; rw [← HQ.out]; exact h157) HON.out
          clear h157
          (refine wpRel_step (fun K hK => ?_); go_simp; intro w' hw'; obtain ⟨n', rfl⟩ := hw'; go_simp; refine ⟨?_, fun v hv => ?_⟩; (go_at_call 12; refine (sameN_self r157 _).mono ?_; rintro e w'' ⟨rfl, rfl⟩; exact ⟨_, rfl, rfl, Drew.mk _ _⟩); obtain rfl : v = _ := hv; (refine hK _ ?_; clear hK K n'))
          repeat (first | (refine wpRel_plain rfl (fun K hK => ?_); intro w' hw'; obtain ⟨n', rfl⟩ := hw'; go_simp; refine ⟨Drew.mk _ _, hK _ ?_⟩; clear hK K n') | (refine wpRel_step (fun K hK => ?_); go_simp; first | (refine hK _ ?_; clear hK K) | (intro w' hw'; obtain ⟨n', rfl⟩ := hw'; go_simp; refine ⟨Drew.mk _ _, hK _ ?_⟩; clear hK K n')))
          (refine wpRel_nil ?_; intro w' hw'; obtain ⟨nq, rfl⟩ := hw')
          go_wp2
          go_roundw
          case rel => exact ⟨q + 1 + 1, true, by omega, by omega, by go_num, rfl, Lib.hid (fun _ => rfl), bdrewN k3 _⟩
          case measure => simp [intOf]; omega
        · have HS := Lib.hid (fun w => by have := sameN_any x0 fst w; rw [HNE.out hP] at this; exact this)
          have HPN := Lib.hid hP
          clear hP
          go_wp2
          first | refine region_drewN (DIs (.bool false)) (by kernel_rfl) (by kernel_rfl) ?_ | refine region_drew (DIs (.bool false)) (by kernel_rfl) (by kernel_rfl) ?_
          repeat (first | (refine wpRel_plain rfl (fun K hK => ?_); intro w' hw'; obtain ⟨n', rfl⟩ := hw'; go_simp; refine ⟨Drew.mk _ _, hK _ ?_⟩; clear hK K n') | (refine wpRel_step (fun K hK => ?_); go_simp; first | (refine hK _ ?_; clear hK K) | (intro w' hw'; obtain ⟨n', rfl⟩ := hw'; go_simp; refine ⟨Drew.mk _ _, hK _ ?_⟩; clear hK K n')) | (refine wpRel_step (fun K hK => ?_); go_simp; intro w' hw'; obtain ⟨n', rfl⟩ := hw'; go_simp; refine ⟨?_, fun v hv => ?_⟩; (go_at_call 12; refine (HS.out _).mono ?_; rintro e w'' ⟨rfl, rfl⟩; exact ⟨_, rfl, rfl, Drew.mk _ _⟩); obtain rfl : v = _ := hv; (refine hK _ ?_; clear hK K n')))
          (refine wpRel_nil ?_; intro w' hw'; obtain ⟨nq, rfl⟩ := hw')
          go_wp2
          go_roundw
          case rel => exact ⟨q + 1 + 1, false, by omega, by omega, by go_num, rfl, Lib.hid (fun h => (HFD.out (by have := HPN.out; omega))), bdrewN k3 _⟩
          case measure => simp [intOf]; omega
      · go_wp2
        first | refine region_drewN (DIs (.bool true)) (by kernel_rfl) (by kernel_rfl) ?_ | refine region_drew (DIs (.bool true)) (by kernel_rfl) (by kernel_rfl) ?_
        repeat (first | (refine wpRel_plain rfl (fun K hK => ?_); intro w' hw'; obtain ⟨n', rfl⟩ := hw'; go_simp; refine ⟨Drew.mk _ _, hK _ ?_⟩; clear hK K n') | (refine wpRel_step (fun K hK => ?_); go_simp; first | (refine hK _ ?_; clear hK K) | (intro w' hw'; obtain ⟨n', rfl⟩ := hw'; go_simp; refine ⟨Drew.mk _ _, hK _ ?_⟩; clear hK K n')))
        (refine wpRel_nil ?_; intro w' hw'; obtain ⟨nq, rfl⟩ := hw')
        go_wp2
        go_roundw
        case rel => exact ⟨q + 1 + 1, true, by omega, by omega, by go_num, rfl, Lib.hid (fun _ => rfl), bdrewN k3 _⟩
        case measure => simp [intOf]; omega
    · obtain rfl : k = F.length := by omega
      obtain rfl := HFD.out hp2
      have k8 := bstep k7 hb
      have HC8 := Lib.hid (Kd.C_below HC7.out hb)
      clear HFD HST HWS HFST HFA HFP HFN P7 HWG HWN HC7 k7 hb
      go_wp2_with fail
      go_at_call 13
      refine (HFBI.out _ HC8.out).mono ?_
      rintro e w9 ⟨A9, c9, rfl, hC9, hb9⟩
      have Q9 := Lib.hid hC9
      have HC9 := Lib.hid (Kd.C_below HC8.out hb9)
      have k9 := bstep k8 hb9
      clear hC9 hb9 k8 HC8
      go_wp2_with fail
      go_at_call 14
      refine (HFBS.out _ HC9.out).mono ?_
      rintro e w10 ⟨A10, c10, rfl, hC10, hb10⟩
      have Q9b := Lib.hid (Kd.C_below Q9.out hb10)
      have Q10 := Lib.hid hC10
      have HC10 := Lib.hid (Kd.C_below HC9.out hb10)
      have k10 := bstep k9 hb10
      have hgl := HBL.out.1
      have hgl' : ¬ ((F.length : Int) < (G.length : Int)) := by omega
      clear hC10 hb10 k9 HC9 Q9
      go_wp2_with (go_at_call 11; refine (a2Same_any A9 A10 c9 c10 G.length G _ Q9b.out Q10.out (by omega)).mono ?_; rintro e w11 ⟨rfl, hb11⟩)
      have HC11 := Lib.hid (Kd.C_below HC10.out hb11)
      have Q11 := Lib.hid (Kd.C_below Q10.out hb11)
      have k11 := bstep k10 hb11
      have hg576 : G.length ≤ 576 := by omega
      clear hb11 k10 HC10 Q10 Q9b hgl' HFBI HFBS hgl hF576 hF2 hp1 hp2 hk1
      clear hkn
      generalize decide (F.length < G.length) = bb194
      go_loopw [23] (fun i wr => ∃ k : Nat, k ≤ G.length ∧ i = .int .i64 k ∧ Below w11.heap.size w11 wr) (fun i _ => G.length - (intOf i).toNat)
      case atStart => exact ⟨0, Nat.zero_le _, rfl, Below.refl _ _⟩
      case round =>
        obtain ⟨k, hkn, rfl, hb⟩ := hrel
        by_cases hlt : k < G.length
        · have HCr := Lib.hid (Kd.C_below Q11.out hb)
          obtain ⟨bk, off, rfl, hbl, d0, hn0⟩ := at_nn HCr.out HBL.out.2.2.1 rfl k hlt
          have hrg := HBL.out.2.2.2 k hlt
          have h05 : flt (G.getD k 0) 1056964608 = false := by rw [nn_flt hn0 (by unfold nn; omega)]; exact decide_eq_false (by omega)
          have h20 : flt 1073741824 (G.getD k 0) = false := by rw [nn_flt (by unfold nn; omega) hn0]; exact decide_eq_false (by omega)
          have hl1 : (k : Int) < (G.length : Int) := by omega
          have hl0 : (0 : Int) ≤ (k : Int) := by omega
          clear hrg
          by_cases hk0 : k = 0
          · subst hk0
            obtain ⟨x1, hx1⟩ : ∃ x, G.getD 0 0 = x := ⟨_, rfl⟩
            rw [hx1, Nat.add_zero] at d0
            rw [hx1] at hn0 h05 h20
            clear hx1
            obtain ⟨wo, hwo⟩ : ∃ wo : World, wo = wr := ⟨_, rfl⟩
            subst hwo
            go_wp2
            first | refine region_drewN (DIs (.bool true)) (by kernel_rfl) (by kernel_rfl) ?_ | refine region_drew (DIs (.bool true)) (by kernel_rfl) (by kernel_rfl) ?_
            repeat (first | (refine wpRel_plain rfl (fun K hK => ?_); intro w' hw'; obtain ⟨n', rfl⟩ := hw'; go_simp; refine ⟨Drew.mk _ _, hK _ ?_⟩; clear hK K n') | (refine wpRel_step (fun K hK => ?_); go_simp; first | (refine hK _ ?_; clear hK K) | (intro w' hw'; obtain ⟨n', rfl⟩ := hw'; go_simp; refine ⟨Drew.mk _ _, hK _ ?_⟩; clear hK K n')))
            (refine wpRel_nil ?_; intro w' hw'; obtain ⟨nq, rfl⟩ := hw')
            go_wp2
            go_roundw
            case rel => exact ⟨1, by omega, by go_num, bdrewN hb _⟩
            case measure => simp [intOf]; omega
          · obtain ⟨q, rfl⟩ : ∃ q, k = q + 1 := ⟨k - 1, by omega⟩
            have e0 := at_nn1 HCr.out HBL.out.2.2.1 rfl q (by omega) bk off rfl
            have hnq : nn (G.getD q 0) := HBL.out.2.2.1 _ (getD_mem (by omega))
            have hx01 := asc_lt HBL.out.2.1 (show q < q + 1 by omega) hlt
            have hle : fle (G.getD (q + 1) 0) (G.getD q 0) = false := by rw [nn_fle hn0 hnq]; exact decide_eq_false (by omega)
            obtain ⟨x1, hx1⟩ : ∃ x, G.getD (q + 1) 0 = x := ⟨_, rfl⟩
            obtain ⟨x0, hx0⟩ : ∃ x, G.getD q 0 = x := ⟨_, rfl⟩
            rw [hx1] at d0 hn0 h05 h20 hle
            rw [hx0] at e0 hle
            clear hx1 hx0 hx01 hnq
            have hk1 : (0 : Int) < (q : Int) + 1 := by omega
            have hk2 : (q : Int) + 1 < (G.length : Int) := by omega
            have hk3 : (q : Int) < (G.length : Int) := by omega
            have hp0 : (0 : Int) ≤ (q : Int) + 1 := by omega
            have hq0 : (0 : Int) ≤ (q : Int) := by omega
            have hwp : IntKind.i64.wrap ((q : Int) + 1 - 1) = (q : Int) := by rw [show ((q : Int) + 1 - 1) = (q : Int) from by omega]; exact IntWalk.i64_in _ (by omega)
            have hwp2 : IntKind.i64.wrap (((q + 1 : Nat) : Int) - 1) = (q : Int) := by rw [show (((q + 1 : Nat) : Int) - 1) = (q : Int) from by omega]; exact IntWalk.i64_in _ (by omega)
            have hwq : IntKind.i64.wrap (q : Int) = (q : Int) := IntWalk.i64_in _ (by omega)
            obtain ⟨wo, hwo⟩ : ∃ wo : World, wo = wr := ⟨_, rfl⟩
            subst hwo
            go_wp2
            first | refine region_drewN (DIs (.bool true)) (by kernel_rfl) (by kernel_rfl) ?_ | refine region_drew (DIs (.bool true)) (by kernel_rfl) (by kernel_rfl) ?_
            repeat (first | (refine wpRel_plain rfl (fun K hK => ?_); intro w' hw'; obtain ⟨n', rfl⟩ := hw'; go_simp; refine ⟨Drew.mk _ _, hK _ ?_⟩; clear hK K n') | (refine wpRel_step (fun K hK => ?_); go_simp; first | (refine hK _ ?_; clear hK K) | (intro w' hw'; obtain ⟨n', rfl⟩ := hw'; go_simp; refine ⟨Drew.mk _ _, hK _ ?_⟩; clear hK K n')))
            (refine wpRel_nil ?_; intro w' hw'; obtain ⟨nq, rfl⟩ := hw')
            go_wp2
            go_roundw
            case rel => exact ⟨q + 1 + 1, by omega, by go_num, bdrewN hb _⟩
            case measure => simp [intOf]; omega
        · obtain rfl : k = G.length := by omega
          have k12 := bstep k11 hb
          have HC12 := Lib.hid (Kd.C_below HC11.out hb)
          clear Q11 k11 HC11 hb HBL hlt hg576 hkn
          obtain ⟨s, hs⟩ := aw_some (l := l) (t := rt) h6
          have htn := isn_of_fin HT.out
          have HFR := Lib.hid (show FV rt rt from ⟨cn_of_not htn, hrt⟩)
          have htr := tgt_range HT.out HFR.out
          have hwl := (allW_of HK.out).1
          have hsl := aw_law (t := rt) hwl h2 (by omega) (by unfold infW; omega) (Nat.le_refl _) hs
          have hbl := bst_law (t := rt) hwl h2 (by omega) (by unfold infW; omega)
          have HFL := Lib.hid (show flt (bst l rt).2.2 s.2 = false by rw [Ok_flt hbl.1 hsl.1]; exact decide_eq_false (by have := hsl.2.1; omega))
          have HNW := Lib.hid (fun i (hi : i < l.length) => isW_not HK.out hsl.2.2 hi)
          have HBP := Lib.hid (fun w h => bestPair_spec A1 c1 l rt rt w h HK.out HT.out HFR.out)
          have HAI := Lib.hid (fun w h => addWheel_impl A1 c1 l rt w h HK.out h6 HT.out rt HFR.out hs)
          have HAS := Lib.hid (fun w h => addWheel_spec A1 c1 l rt w h hc1 HK.out h6 HT.out rt HFR.out hs)
          have hs1 := aw_pos hs
          obtain ⟨best, hbest⟩ : ∃ b, bst l rt = b := ⟨_, rfl⟩
          rw [hbest] at HFL HBP
          clear hs htn htr hwl hsl hbl hbest
          obtain ⟨n, y⟩ := s
          obtain ⟨bx, by_, bz⟩ := best
          dsimp only at HFL HNW HBP hs1
          unfold AwQ at HAI HAS
          dsimp only at HAI HAS
          go_wp2_with fail
          go_at_call 15
          refine (HBP.out _ HC12.out).mono ?_
          rintro e w13 ⟨r13, rfl, h13, hb13⟩
          have H13 := Lib.hid h13
          have HC13 := Lib.hid (Kd.C_below HC12.out hb13)
          have k13 := bstep k12 hb13
          clear h13 hb13 k12 HC12 HBP
          go_wp2_with fail
          go_at_call 16
          refine (HAI.out _ HC13.out).mono ?_
          rintro e w14 ⟨r14, rfl, h14, hb14⟩
          have H14 := Lib.hid h14
          have HC14 := Lib.hid (Kd.C_below HC13.out hb14)
          have k14 := bstep k13 hb14
          clear h14 hb14 k13 HC13 HAI
          go_wp2_with fail
          go_at_call 17
          refine (HAS.out _ HC14.out).mono ?_
          rintro e w15 ⟨r15, rfl, h15, hb15⟩
          have H15 := Lib.hid h15
          have HC15 := Lib.hid (Kd.C_below HC14.out hb15)
          have k15 := bstep k14 hb15
          have hff : flt r13 r15 = false := by rw [← flt_cn r13 r15, H13.out.1, h15.1]; exact HFL.out
          have hn1 : ¬ (n < 6) := by omega
          have hn2 : ¬ (200 < n) := by omega
          clear h15 hb15 k14 HC14 HAS
          go_wp2_with (go_at_call 12; refine (sameN_FV H14.out H15.out _).mono ?_; rintro e w' ⟨rfl, rfl⟩)
          go_loop [34] (fun i => ∃ k : Nat, k ≤ l.length ∧ i = .int .i64 k) (fun i => l.length - (intOf i).toNat)
          case atStart => exact ⟨0, Nat.zero_le _, rfl⟩
          case round =>
            obtain ⟨k, hkn, rfl⟩ := hrel
            by_cases hlt : k < l.length
            · obtain ⟨bk, off, rfl, hbl, d0, _, _⟩ := at_ki HC15.out k hlt
              have hne := HNW.out k hlt
              obtain ⟨z, hz⟩ : ∃ z, l.getD k 0 = z := ⟨_, rfl⟩
              rw [hz] at d0 hne
              have hz0 : -32768 ≤ z ∧ z ≤ 32767 := by omega
              have hne1 : ¬ (z = n) := hne
              have hne2 : (z == n) = false := beq_eq_false_iff_ne.2 hne
              clear hz hne
              go_wp2

              go_round
              case rel => exact ⟨k + 1, by omega, by go_num⟩
              case measure => simp [intOf]; omega
            · go_wp2
              go_ret
              exact ⟨rfl, k15⟩
end Go.Proofs.Ytggcajillncamaa
