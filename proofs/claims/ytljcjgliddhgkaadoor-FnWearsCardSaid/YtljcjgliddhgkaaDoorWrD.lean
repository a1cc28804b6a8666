/- Teeth are worn: the walk of the law. Teeth are worn: the law. -/
import Derived.Test.YtljcjgliddhgkaaDoorWrA
namespace Go.Proofs.YtljcjgliddhgkaaDoor
open Go.RowKit Ieee
open Go.Proofs.YtljcjgliddhgkaaDoorW.PrintWords
set_option maxRecDepth 100000
attribute [local irreducible] wpRel hexL cn ops17 yielded
attribute [local go_sem high] y17_2 y17_8 y17_14 y17_19 y17_24 y17_28 y17_34 y17_39 y17_43 y17_52 y17_56 y17_61 y17_65 y17_80 y17_87 y17_91 y17_99 y17_103 y17_109 y17_113 y17_120 y17_126
theorem neq00 (w : World) : (binOp .neq 23 (.agg #[.float .f32 0, .float .f32 0]) (.agg #[.float .f32 0, .float .f32 0])).run Tryd.prog w = .ok (.bool false) w := by kernel_rfl
@[go_sem high] theorem some_undefW : (some undef : Option Value) = some (.tuple #[]) := rfl
theorem C4.setAll {w : World} {b : Nat} {v0 v1 v2 v3 : Value} (h : C4 w b v0 v1 v2 v3) (u0 u1 u2 u3 : Value) : C4 ((((w.setCell ⟨b, 0, none⟩ u0).setCell ⟨b, 1, none⟩ u1).setCell ⟨b, 2, none⟩ u2).setCell ⟨b, 3, none⟩ u3) b u0 u1 u2 u3 := by
  obtain ⟨lt, c0, c1, c2, c3, f0, f1, f2, f3⟩ := h
  exact ⟨by simpa using lt, by go_simp; try assumption, by go_simp; try assumption, by go_simp; try assumption, by go_simp; try assumption, by go_simp; try assumption, by go_simp; try assumption, by go_simp; try assumption, by go_simp; try assumption⟩
theorem quo_at {v : Int} {r d : Nat} (hd : nn d) (hv : nn (fdiv (fi v) d)) (h : FV r (fop BinOp.quo (cn (fi v)) (cn d))) : r = fdiv (fi v) d := by
  rw [cn_of_not (fi_isn v), nn_cn hd] at h
  exact FV_nn h hv
set_option maxHeartbeats 16000000 in
theorem wears_walk (A B : Option Addr) (c c' : Nat) (xs ys : List Int) (m : Int) (w : World) (hm : w.cell? ⟨2, 0, none⟩ = some (.int .i64 m)) (hA : Bytes w A xs) (hB : Bytes w B ys) (hx : xs.length ≤ 4096) (hy : ys.length ≤ 4096) :
    Calls Tryd.prog 5 #[.slice A xs.length c, .slice B ys.length c'] w fun e w' => e = .returned (.bool true) ∧ Below w.heap.size w w' := by
  have HA := Lib.hid hA
  have HBy := Lib.hid hB
  have HM := Lib.hid hm
  have hg := World.block_lt_of_cell? w _ hm
  clear hA hB hm
  go_enter Tryd.func5, Tryd.ntmps5
  go_wp2_with (go_at_call 12; refine (f6big_any _ _ _ (by omega) _).mono ?_; rintro e w' ⟨rfl, rfl⟩)
  go_at_call 13
  refine (p6Teeth_any A _ c _ 1 xs _ (HA.out.below (balloc (Below.refl _ _) _)) (by omega)).mono ?_
  rintro e w2 ⟨v2, ls, rfl, hR2, hl2, hd2, hb2⟩
  obtain ⟨A2, c2, hv2, _, hC2⟩ := hR2.reads
  rw [hl2] at hv2 hC2
  subst hv2
  obtain ⟨g, off, h, x, y, s, rfl, hgl, c0, c1, c2, c3, hxe, lh, lx, ly, h8⟩ := at_kT hC2 0 (by decide)
  have hD := hd2 0 (by omega)
  rw [hxe] at hD
  obtain ⟨⟨d1, d2⟩, d3, d4, hs⟩ := hD
  replace d1 : 1065353216 ≤ cn h := d1
  replace d2 : cn h ≤ 1199570944 := d2
  replace d3 : cn x ≤ 1065353216 := d3
  replace d4 : cn y ≤ 1065353216 := d4
  have eh := exactC (r := h) rfl (show nn (cn h) by unfold nn; omega)
  have ex := exactC (r := x) rfl (show nn (cn x) by unfold nn; omega)
  have ey := exactC (r := y) rfl (show nn (cn y) by unfold nn; omega)
  rw [← eh] at d1 d2
  rw [← ex] at d3
  rw [← ey] at d4
  have HK := Lib.hid (show OkW h x y from ⟨⟨d1, d2⟩, d3, d4⟩)
  have hs' : s = 0 ∨ s = 1 := hs
  have kb2 := Lib.hid (bstep (balloc (Below.refl w.heap.size w) _) hb2)
  simp only [Nat.zero_mul, Nat.add_zero] at c0 c1 c2 c3
  clear hR2 hC2 hl2 hd2 hxe lh lx ly h8 d1 d2 d3 d4 eh ex ey hs
  go_wp2_with fail
  go_at_call 14
  refine (p6Pick_any B c' ys 60 _ (HBy.out.below kb2.out) (by omega) (by omega)).mono ?_
  rintro e w3 ⟨v, rfl, hv0, hv1, hb3⟩
  have hld := ld_ok hv0 hv1
  go_wp2_with ((refine wpList_fop (o := ⟨some 46, _, _, _, _, _⟩) rfl rfl (by first | exact .inl rfl | exact .inr (.inl rfl) | exact .inr (.inr (.inl rfl)) | exact .inr (.inr (.inr rfl))) rfl rfl ?_; intro r46 n46 h46); obtain rfl := quo_at (by unfold nn; omega) (by unfold nn; omega) h46; clear h46; obtain ⟨w31, hw31⟩ : ∃ w31, w3.drewN n46 = w31 := ⟨_, rfl⟩; have hb31 : Below w2.heap.size w2 w31 := hw31 ▸ bdrewN hb3 n46; rw [hw31]; clear hw31)
  go_at_call 14
  refine (p6Pick_any A c xs 17 _ (HA.out.below (bstep kb2.out hb31)) (by omega) (by omega)).mono ?_
  rintro e w4 ⟨v', rfl, hv0', hv1', hb4⟩
  have hlm : fdiv (fi v') 1098907648 ≤ 1065353216 := pick_part (n := 16) hv0' (by omega) (show fi 16 = 1098907648 by decide) (by decide) (by decide)
  obtain ⟨l, hl⟩ : ∃ l, fdiv (fi v) 1082130432 = l := ⟨_, rfl⟩
  rw [hl] at hld ⊢
  clear hl
  go_wp2_with ((refine wpList_fop (o := ⟨some 50, _, _, _, _, _⟩) rfl rfl (by first | exact .inl rfl | exact .inr (.inl rfl) | exact .inr (.inr (.inl rfl)) | exact .inr (.inr (.inr rfl))) rfl rfl ?_; intro r50 n50 h50); obtain rfl := quo_at (by unfold nn; omega) (by unfold nn; omega) h50; clear h50; obtain ⟨w5, hw5⟩ : ∃ w5, w4.drewN n50 = w5 := ⟨_, rfl⟩; have hb5 : Below w31.heap.size w31 w5 := hw5 ▸ bdrewN hb4 n50; rw [hw5]; clear hw5; have j5 := bstep hb31 hb5; have f0 := (bc j5 g off hgl).trans c0; have f1 := (bc j5 g (off + 1) hgl).trans c1; have f2 := (bc j5 g (off + 2) hgl).trans c2; have f3 := (bc j5 g (off + 3) hgl).trans c3; clear c0 c1 c2 c3)
  have HB5 := Lib.hid (bstep kb2.out (bstep hb31 hb5))
  obtain ⟨q, hq⟩ : ∃ q, fdiv (fi v') 1098907648 = q := ⟨_, rfl⟩
  rw [hq] at hlm ⊢
  have HLQ := Lib.hid (show l ≤ 1233125376 ∧ q ≤ 1065353216 from ⟨by omega, hlm⟩)
  clear hq hlm hld hb2 hb3 hb31 hb4 hb5 j5 f0 f1 f2 f3 hv0 hv1 hv0' hv1' kb2 HA HBy hgl
  rcases hs' with rfl | rfl
  · as_aux_lemma =>
    -- side 0
    have k := HK.out
    have hlq := HLQ.out
    obtain ⟨x1, hx1⟩ : ∃ z, wornV h x l = z := ⟨_, rfl⟩
    have KD := Lib.hid (hx1 ▸ k.worn0 hlq.1 : OkW h x1 y)
    have hge : x ≤ x1 ∧ x1 ≤ 1065353216 := hx1 ▸ wr_part k.1.1 k.1.2 k.2.1 hlq.1
    have CT := Lib.hid (toothText_impl h x y 0 k.lh k.lx k.ly (by decide) (by decide))
    have CR := Lib.hid (readBack h x y 0 k.1.1 k.1.2 k.2.1 k.2.2 (.inl rfl) m)
    have CWI := Lib.hid (fun w => (hx1 ▸ wornI0 k hlq.1 w : Calls Tryd.prog 15 #[.agg #[.float .f32 h, .float .f32 x, .float .f32 y, .int .i8 0], .float .f32 l] w fun e w' => e = .returned (.tuple #[.agg #[.float .f32 h, .float .f32 x1, .float .f32 y, .int .i8 0], .int .i64 0]) ∧ Below w.heap.size w w'))
    have CWS := Lib.hid (fun w => (hx1 ▸ wornS0 k hlq.1 w : Calls Tryd.prog 16 #[.agg #[.float .f32 h, .float .f32 x, .float .f32 y, .int .i8 0], .float .f32 l] w fun e w' => e = .returned (.tuple #[.agg #[.float .f32 h, .float .f32 x1, .float .f32 y, .int .i8 0], .int .i64 0]) ∧ Below w.heap.size w w'))
    obtain ⟨za, zb, hab⟩ : ∃ a b, wkC (wkF h x l q 105 0) = (a, b) := ⟨_, _, rfl⟩
    have CKI := Lib.hid (weeksI0 k hlq.1 hlq.2 za zb hab)
    have CKS := Lib.hid (weeksS0 k hlq.1 hlq.2 za zb hab)
    have HAB := Lib.hid hab
    have e1 : feq h h = true := by rw [nn_feq k.nh k.nh]; simp
    have e2 : feq x x = true := by rw [nn_feq k.nx k.nx]; simp
    have e3 : feq y y = true := by rw [nn_feq k.ny k.ny]; simp
    have e4 : flt x1 x = false := by rw [nn_flt KD.out.nx k.nx]; simp; omega
    have e5 : flt 1065353216 x1 = false := by rw [nn_flt (by unfold nn; omega) KD.out.nx]; simp; omega
    have e6 : feq 0 0 = true := by rw [nn_feq (by unfold nn; omega) (by unfold nn; omega)]; simp
    clear k hx1 hge hab
    go_at_call 8
    refine (CT.out _).mono ?_
    rintro e w6 ⟨rfl, hb6⟩
    have G8_6 := Lib.hid ((C4.new w5 28 (.float .f32 h) (.float .f32 x) (.float .f32 y) (.int .i8 0)).below hb6)
    have HB6 := Lib.hid (bstep (balloc HB5.out (.cells #[.float .f32 h, .float .f32 x, .float .f32 y, .int .i8 0] 28)) hb6)
    clear hb6 HB5
    go_wp2_with fail
    go_at_call 10
    refine (CR.out _ ((bc HB6.out _ 0 hg).trans HM.out)).mono ?_
    rintro e w7 ⟨rfl, hb7⟩
    have G8_7 := Lib.hid (G8_6.out.below hb7)
    have HB7 := Lib.hid (bstep HB6.out hb7)
    clear G8_6 hb7 HB6
    obtain ⟨k8, a80, a81, a82, a83, b80, b81, b82, b83⟩ := G8_7.out
    go_wp2_with fail
    go_at_call 15
    refine (CWI.out _).mono ?_
    rintro e w8 ⟨rfl, hb8⟩
    clear k8 a80 a81 a82 a83 b80 b81 b82 b83
    have G8_8 := Lib.hid ((G8_7.out.below (balloc (Below.refl _ _) _)).below hb8)
    have G9_8 := Lib.hid ((C4.new w7 28 (.float .f32 h) (.float .f32 x) (.float .f32 y) (.int .i8 0)).below hb8)
    have HB8 := Lib.hid (bstep (balloc HB7.out (.cells #[.float .f32 h, .float .f32 x, .float .f32 y, .int .i8 0] 28)) hb8)
    clear G8_7 hb8 HB7
    obtain ⟨k8, a80, a81, a82, a83, b80, b81, b82, b83⟩ := G8_8.out
    go_wp2_with fail
    go_at_call 16
    refine (CWS.out _).mono ?_
    rintro e w9 ⟨rfl, hb9⟩
    clear k8 a80 a81 a82 a83 b80 b81 b82 b83
    have G8_9 := Lib.hid ((G8_8.out.below (balloc (Below.refl _ _) _)).below hb9)
    have G9_9 := Lib.hid ((G9_8.out.below (balloc (Below.refl _ _) _)).below hb9)
    have G11_9 := Lib.hid ((C4.new w8 28 (.float .f32 h) (.float .f32 x1) (.float .f32 y) (.int .i8 0)).below hb9)
    have HB9 := Lib.hid (bstep (balloc HB8.out (.cells #[.float .f32 h, .float .f32 x1, .float .f32 y, .int .i8 0] 28)) hb9)
    clear G8_8 G9_8 hb9 HB8
    obtain ⟨k8, a80, a81, a82, a83, b80, b81, b82, b83⟩ := G8_9.out
    go_wp2_with fail
    go_at_call 17
    refine (wear0 HK.out _).mono ?_
    rintro e w10 ⟨rfl, hb10⟩
    clear k8 a80 a81 a82 a83 b80 b81 b82 b83
    have G8_10 := Lib.hid ((G8_9.out.below (balloc (Below.refl _ _) _)).below hb10)
    have G9_10 := Lib.hid ((G9_9.out.below (balloc (Below.refl _ _) _)).below hb10)
    have G11_10 := Lib.hid ((G11_9.out.below (balloc (Below.refl _ _) _)).below hb10)
    have G13_10 := Lib.hid ((C4.new w9 28 (.float .f32 h) (.float .f32 x1) (.float .f32 y) (.int .i8 0)).below hb10)
    have HB10 := Lib.hid (bstep (balloc HB9.out (.cells #[.float .f32 h, .float .f32 x1, .float .f32 y, .int .i8 0] 28)) hb10)
    clear G8_9 G9_9 G11_9 hb10 HB9
    obtain ⟨k13, a130, a131, a132, a133, b130, b131, b132, b133⟩ := G13_10.out
    go_wp2_with fail
    go_at_call 17
    refine (wear0 KD.out _).mono ?_
    rintro e w11 ⟨rfl, hb11⟩
    clear k13 a130 a131 a132 a133 b130 b131 b132 b133
    have G8_11 := Lib.hid (G8_10.out.below hb11)
    have G9_11 := Lib.hid (G9_10.out.below hb11)
    have G11_11 := Lib.hid (G11_10.out.below hb11)
    have G13_11 := Lib.hid (G13_10.out.below hb11)
    have HB11 := Lib.hid (bstep HB10.out hb11)
    clear G8_10 G9_10 G11_10 G13_10 hb11 HB10
    obtain ⟨k8, a80, a81, a82, a83, b80, b81, b82, b83⟩ := G8_11.out
    go_wp2_with fail
    go_at_call 18
    refine (turn0 HK.out _).mono ?_
    rintro e w12 ⟨rfl, hb12⟩
    clear k8 a80 a81 a82 a83 b80 b81 b82 b83
    have G8_12 := Lib.hid (G8_11.out.below hb12)
    have G9_12 := Lib.hid (G9_11.out.below hb12)
    have G11_12 := Lib.hid (G11_11.out.below hb12)
    have G13_12 := Lib.hid (G13_11.out.below hb12)
    have HB12 := Lib.hid (bstep HB11.out hb12)
    clear G8_11 G9_11 G11_11 G13_11 hb12 HB11
    go_wp2_with fail
    go_at_call 18
    refine (turn1 HK.out _).mono ?_
    rintro e w13 ⟨rfl, hb13⟩
    have G8_13 := Lib.hid ((G8_12.out.below (balloc (Below.refl _ _) _)).below hb13)
    have G9_13 := Lib.hid ((G9_12.out.below (balloc (Below.refl _ _) _)).below hb13)
    have G11_13 := Lib.hid ((G11_12.out.below (balloc (Below.refl _ _) _)).below hb13)
    have G13_13 := Lib.hid ((G13_12.out.below (balloc (Below.refl _ _) _)).below hb13)
    have G19_13 := Lib.hid ((C4.new w12 28 (.float .f32 h) (.float .f32 x) (.float .f32 y) (.int .i8 1)).below hb13)
    have HB13 := Lib.hid (bstep (balloc HB12.out (.cells #[.float .f32 h, .float .f32 x, .float .f32 y, .int .i8 1] 28)) hb13)
    clear G8_12 G9_12 G11_12 G13_12 hb13 HB12
    obtain ⟨k8, a80, a81, a82, a83, b80, b81, b82, b83⟩ := G8_13.out
    go_wp2_with fail
    go_at_call 19
    refine (fresh0 HK.out _).mono ?_
    rintro e w14 ⟨rfl, hb14⟩
    clear k8 a80 a81 a82 a83 b80 b81 b82 b83
    have G8_14 := Lib.hid ((G8_13.out.below (balloc (Below.refl _ _) _)).below hb14)
    have G9_14 := Lib.hid ((G9_13.out.below (balloc (Below.refl _ _) _)).below hb14)
    have G11_14 := Lib.hid ((G11_13.out.below (balloc (Below.refl _ _) _)).below hb14)
    have G13_14 := Lib.hid ((G13_13.out.below (balloc (Below.refl _ _) _)).below hb14)
    have G19_14 := Lib.hid ((G19_13.out.below (balloc (Below.refl _ _) _)).below hb14)
    have G21_14 := Lib.hid ((C4.new w13 28 (.float .f32 h) (.float .f32 x) (.float .f32 y) (.int .i8 0)).below hb14)
    have HB14 := Lib.hid (bstep (balloc HB13.out (.cells #[.float .f32 h, .float .f32 x, .float .f32 y, .int .i8 0] 28)) hb14)
    clear G8_13 G9_13 G11_13 G13_13 G19_13 hb14 HB13
    go_wp2_with fail
    have Gn := Lib.hid (C4.new w14 28 (.float .f32 h) (.float .f32 0) (.float .f32 0) (.int .i8 0))
    have Ga8 := Lib.hid (G8_14.out.below (balloc (Below.refl _ _) (.cells #[.float .f32 h, .float .f32 0, .float .f32 0, .int .i8 0] 28)))
    have Ga9 := Lib.hid (G9_14.out.below (balloc (Below.refl _ _) (.cells #[.float .f32 h, .float .f32 0, .float .f32 0, .int .i8 0] 28)))
    have Ga11 := Lib.hid (G11_14.out.below (balloc (Below.refl _ _) (.cells #[.float .f32 h, .float .f32 0, .float .f32 0, .int .i8 0] 28)))
    have Ga13 := Lib.hid (G13_14.out.below (balloc (Below.refl _ _) (.cells #[.float .f32 h, .float .f32 0, .float .f32 0, .int .i8 0] 28)))
    have Ga19 := Lib.hid (G19_14.out.below (balloc (Below.refl _ _) (.cells #[.float .f32 h, .float .f32 0, .float .f32 0, .int .i8 0] 28)))
    have Ga21 := Lib.hid (G21_14.out.below (balloc (Below.refl _ _) (.cells #[.float .f32 h, .float .f32 0, .float .f32 0, .int .i8 0] 28)))
    have HBa := Lib.hid (balloc HB14.out (.cells #[.float .f32 h, .float .f32 0, .float .f32 0, .int .i8 0] 28))
    clear G8_14 G9_14 G11_14 G13_14 G19_14 G21_14 HB14
    obtain ⟨wa, hwa⟩ : ∃ wa, w14.alloc (.cells #[.float .f32 h, .float .f32 0, .float .f32 0, .int .i8 0] 28) = wa := ⟨_, rfl⟩
    rw [hwa] at Ga8 Ga9 Ga11 Ga13 Ga19 Ga21 Gn HBa ⊢
    clear hwa
    obtain ⟨k8, a80, a81, a82, a83, _, _, _, _⟩ := Ga8.out
    obtain ⟨k9, a90, a91, a92, a93, _, _, _, _⟩ := Ga9.out
    obtain ⟨k11, a110, a111, a112, a113, _, _, _, _⟩ := Ga11.out
    obtain ⟨k13, a130, a131, a132, a133, _, _, _, _⟩ := Ga13.out
    obtain ⟨k19, a190, a191, a192, a193, _, _, _, _⟩ := Ga19.out
    obtain ⟨k21, a210, a211, a212, a213, _, _, _, _⟩ := Ga21.out
    obtain ⟨k23, a230, a231, a232, a233, _, _, _, _⟩ := Gn.out
    have hneq := neq00
    have i1 : IntKind.i8.wrap 1 = 1 := by decide
    have i0 : IntKind.i8.wrap 0 = 0 := by decide
    refine region_at (l := ops17) (DIs (.bool true)) (by kernel_rfl) (by kernel_rfl) lex17 ?_
    dsimp only [List.append]
    repeat (first | (refine wpRel_plain rfl (fun K hK => ?_); intro w' hb'; have hc' := bc (Bel.out hb'); go_simp; (first | refine hK _ ?_ | refine ⟨(by first | exact hb' | exact Bel.drewN hb' _ | exact Bel.alloc hb' _), hK _ ?_⟩); clear hK K hb' hc') | (refine wpRel_step (fun K hK => ?_); go_simp; first | (refine hK _ ?_; clear hK K) | (intro w' hb'; have hc' := bc (Bel.out hb'); go_simp; (first | refine hK _ ?_ | refine ⟨(by first | exact hb' | exact Bel.drewN hb' _ | exact Bel.alloc hb' _), hK _ ?_⟩); clear hK K hb' hc')) | (refine wpRel_step (fun K hK => ?_); go_simp; intro w' hb'; have hc' := bc (Bel.out hb'); go_simp; refine ⟨?_, fun v hv => ?_⟩; (go_at_call 20; refine (sameS0 _ _ _ _).mono ?_; rintro e w'' ⟨rfl, hk⟩; exact ⟨_, rfl, rfl, Bel.step hb' hk⟩); (first | (obtain rfl : v = _ := hv) | (obtain rfl : v = _ := (Option.some.inj hv).symm)); (refine hK _ ?_; clear hK K hb' hc')) | (refine wpRel_step (fun K hK => ?_); go_simp; intro w' hb'; have hc' := bc (Bel.out hb'); go_simp; refine ⟨?_, fun v hv => ?_⟩; (go_at_call 21; refine (sameI0 _ _ _ _).mono ?_; rintro e w'' ⟨rfl, hk⟩; exact ⟨_, rfl, rfl, Bel.step hb' hk⟩); (first | (obtain rfl : v = _ := hv) | (obtain rfl : v = _ := (Option.some.inj hv).symm)); (refine hK _ ?_; clear hK K hb' hc')) | (refine wpRel_step (fun K hK => ?_); go_simp; intro w' hb'; have hc' := bc (Bel.out hb'); go_simp; refine ⟨?_, fun v hv => ?_⟩; (go_at_call 22; refine (valid0 (by first | exact HK.out | exact KD.out) _).mono ?_; rintro e w'' ⟨rfl, hk⟩; exact ⟨_, rfl, rfl, Bel.step hb' hk⟩); (first | (obtain rfl : v = _ := hv) | (obtain rfl : v = _ := (Option.some.inj hv).symm)); (refine hK _ ?_; clear hK K hb' hc')))
    (refine wpRel_nil ?_; intro w20 hb20; replace hb20 := Bel.out hb20; have hc20 := bc hb20; have hf20 := bf hb20; have hs20 := hb20.size; (try simp at hs20); (try have hz200 : w.heap.size < w20.heap.size := by omega); (try have hz201 : w.heap.size + 1 < w20.heap.size := by omega); (try have hz202 : w.heap.size + 1 + 1 < w20.heap.size := by omega); (try have hz203 : w.heap.size + 1 + 1 + 1 < w20.heap.size := by omega); (try have hy2020 : w2.heap.size < w20.heap.size := by omega); (try have hy2021 : w2.heap.size + 1 < w20.heap.size := by omega))
    clear k8 a80 a81 a82 a83 k9 a90 a91 a92 a93 k11 a110 a111 a112 a113 k13 a130 a131 a132 a133 k19 a190 a191 a192 a193 k21 a210 a211 a212 a213 k23 a230 a231 a232 a233 hneq i1 i0
    have G8q := Lib.hid (Ga8.out.below hb20)
    have HBq := Lib.hid (bstep HBa.out hb20)
    clear Ga8 Ga9 Ga11 Ga13 Ga19 Ga21 Gn HBa hb20 hc20 hf20 hs20
    obtain ⟨k8, a80, a81, a82, a83, b80, b81, b82, b83⟩ := G8q.out
    go_wp2_with fail
    go_at_call 23
    refine (CKI.out _).mono ?_
    rintro e w21 ⟨rfl, hb21⟩
    clear k8 a80 a81 a82 a83 b80 b81 b82 b83
    have G8_21 := Lib.hid (G8q.out.below hb21)
    have HB21 := Lib.hid (bstep HBq.out hb21)
    clear G8q hb21 HBq
    obtain ⟨k8, a80, a81, a82, a83, b80, b81, b82, b83⟩ := G8_21.out
    go_wp2_with fail
    go_at_call 24
    refine (CKS.out _).mono ?_
    rintro e w22 ⟨rfl, hb22⟩
    clear k8 a80 a81 a82 a83 b80 b81 b82 b83
    have G8_22 := Lib.hid (G8_21.out.below hb22)
    have HB22 := Lib.hid (bstep HB21.out hb22)
    clear G8_21 hb22 HB21
    clear  CT CR CWI CWS CKI CKS KD e1 e2 e3 e4 e5 e6
    have hab := HAB.out
    cases hz : wkF h x l q 105 0 with
    | none =>
      rw [hz] at hab
      have hf : flt q (wks h x l 0) = false := wkF_none (d := 104) hz
      have hf2 : fle x q = true := by
        rw [show wks h x l 0 = x from rfl, nn_flt (show nn q by have := HLQ.out.2; unfold nn; omega) HK.out.nx] at hf
        rw [nn_fle HK.out.nx (show nn q by have := HLQ.out.2; unfold nn; omega)]
        simp at hf ⊢; omega
      obtain ⟨rfl, rfl⟩ : za = 0 ∧ zb = 6 := by simp only [wkC, Prod.mk.injEq] at hab; omega
      clear HAB hab hz hf
      go_wp2
      go_ret
      exact ⟨by simp, HB22.out⟩
    | some n =>
      rw [hz] at hab
      obtain ⟨_, hn105, hT, hF⟩ := wkF_some 105 0 n hz
      obtain ⟨rfl, rfl⟩ : za = (n : Int) ∧ zb = 0 := by simp only [wkC, Prod.mk.injEq] at hab; omega
      have HT := Lib.hid hT
      have HF := Lib.hid hF
      have hnI : (n : Int) < 105 := by omega
      have hwb := HB22.out.size
      clear HAB hab hz hT hF hn105
      obtain ⟨k8, a80, a81, a82, a83, b80, b81, b82, b83⟩ := G8_22.out
      go_wp2
      go_loopw [30] (fun i wr => ∃ k : Nat, k ≤ n ∧ i = .int .i64 (k : Nat) ∧ Hid (C4 wr w22.heap.size (.float .f32 h) (.float .f32 (wks h x l k)) (.float .f32 y) (.int .i8 0)) ∧ Hid (C4 wr w5.heap.size (.float .f32 h) (.float .f32 x) (.float .f32 y) (.int .i8 0)) ∧ Below w.heap.size w wr) (fun i _ => n - (intOf i).toNat)
      case atStart => exact ⟨0, Nat.zero_le _, rfl, Lib.hid (C4.new w22 28 (.float .f32 h) (.float .f32 x) (.float .f32 y) (.int .i8 0)), Lib.hid (G8_22.out.below (balloc (Below.refl _ _) _)), balloc HB22.out _⟩
      case round =>
        obtain ⟨k, hk, rfl, HN, H8, hb⟩ := hrel
        clear k8 a80 a81 a82 a83 b80 b81 b82 b83
        obtain ⟨kn, n0, n1, n2, n3, m0, m1, m2, m3⟩ := HN.out
        obtain ⟨k8, a80, a81, a82, a83, b80, b81, b82, b83⟩ := H8.out
        by_cases hlt : k < n
        · have hq := HF.out k (Nat.zero_le _) hlt
          have hu := wks_part HK.out.1.1 HK.out.1.2 HK.out.2.1 HLQ.out.1 k
          have HS := Lib.hid (show wornV h (wks h x l k) l = wks h x l (k + 1) from rfl)
          obtain ⟨z, hz⟩ : ∃ z, wks h x l k = z := ⟨_, rfl⟩
          obtain ⟨z1, hz1⟩ : ∃ z, wks h x l (k + 1) = z := ⟨_, rfl⟩
          rw [hz] at hu hq HS n1
          rw [hz1] at HS
          have CW := Lib.hid (fun w => (HS.out ▸ wornI0 (show OkW h z y from ⟨HK.out.1, hu, HK.out.2.2⟩) HLQ.out.1 w : Calls Tryd.prog 15 #[.agg #[.float .f32 h, .float .f32 z, .float .f32 y, .int .i8 0], .float .f32 l] w fun e w' => e = .returned (.tuple #[.agg #[.float .f32 h, .float .f32 z1, .float .f32 y, .int .i8 0], .int .i64 0]) ∧ Below w.heap.size w w'))
          have HZ := Lib.hid hz
          have HZ1 := Lib.hid hz1
          have x1 : (k : Int) < (n : Int) := by omega
          clear hz hz1 hu HS
          go_wp2_with fail
          go_at_call 15
          refine (CW.out _).mono ?_
          rintro e wa ⟨rfl, hba⟩
          clear kn n0 n1 n2 n3 m0 m1 m2 m3 k8 a80 a81 a82 a83 b80 b81 b82 b83
          have HN2 := Lib.hid (HN.out.below hba)
          have H82 := Lib.hid (H8.out.below hba)
          have hbb := bstep hb hba
          rw [HZ.out] at HN2
          clear HN H8 hb hba CW
          obtain ⟨kn, n0, n1, n2, n3, m0, m1, m2, m3⟩ := HN2.out
          obtain ⟨k8, a80, a81, a82, a83, b80, b81, b82, b83⟩ := H82.out
          go_wp2
          go_roundw
          case rel =>
            have hne : w22.heap.size ≠ w5.heap.size := by have := G8_22.out.lt; omega
            refine ⟨k + 1, hlt, by go_num, Lib.hid (by rw [HZ1.out]; exact (HN2.out.setAll _ _ _ _).below (balloc (Below.refl _ _) _)), Lib.hid (((((H82.out.setOther hne _).setOther hne _).setOther hne _).setOther hne _).below (balloc (Below.refl _ _) _)), ?_⟩
            (repeat (first | with_reducible exact Below.refl _ _ | with_reducible refine bset ?_ (by first | (simp; done) | (simp; omega) | omega) _ | with_reducible refine balloc ?_ _ | with_reducible refine bdrewN ?_ _ | with_reducible refine bdrew ?_ | with_reducible refine bstep ?_ (by assumption)))
          case measure => simp [intOf]; omega
        · obtain rfl : k = n := by omega
          have hT := HT.out
          clear hlt HT HF
          go_wp2
          go_ret
          exact ⟨by simp [hT], hb⟩
  · as_aux_lemma =>
    -- side 1
    have k := HK.out
    have hlq := HLQ.out
    obtain ⟨y1, hx1⟩ : ∃ z, wornV h y l = z := ⟨_, rfl⟩
    have KD := Lib.hid (hx1 ▸ k.worn1 hlq.1 : OkW h x y1)
    have hge : y ≤ y1 ∧ y1 ≤ 1065353216 := hx1 ▸ wr_part k.1.1 k.1.2 k.2.2 hlq.1
    have CT := Lib.hid (toothText_impl h x y 1 k.lh k.lx k.ly (by decide) (by decide))
    have CR := Lib.hid (readBack h x y 1 k.1.1 k.1.2 k.2.1 k.2.2 (.inr rfl) m)
    have CWI := Lib.hid (fun w => (hx1 ▸ wornI1 k hlq.1 w : Calls Tryd.prog 15 #[.agg #[.float .f32 h, .float .f32 x, .float .f32 y, .int .i8 1], .float .f32 l] w fun e w' => e = .returned (.tuple #[.agg #[.float .f32 h, .float .f32 x, .float .f32 y1, .int .i8 1], .int .i64 0]) ∧ Below w.heap.size w w'))
    have CWS := Lib.hid (fun w => (hx1 ▸ wornS1 k hlq.1 w : Calls Tryd.prog 16 #[.agg #[.float .f32 h, .float .f32 x, .float .f32 y, .int .i8 1], .float .f32 l] w fun e w' => e = .returned (.tuple #[.agg #[.float .f32 h, .float .f32 x, .float .f32 y1, .int .i8 1], .int .i64 0]) ∧ Below w.heap.size w w'))
    obtain ⟨za, zb, hab⟩ : ∃ a b, wkC (wkF h y l q 105 0) = (a, b) := ⟨_, _, rfl⟩
    have CKI := Lib.hid (weeksI1 k hlq.1 hlq.2 za zb hab)
    have CKS := Lib.hid (weeksS1 k hlq.1 hlq.2 za zb hab)
    have HAB := Lib.hid hab
    have e1 : feq h h = true := by rw [nn_feq k.nh k.nh]; simp
    have e2 : feq x x = true := by rw [nn_feq k.nx k.nx]; simp
    have e3 : feq y y = true := by rw [nn_feq k.ny k.ny]; simp
    have e4 : flt y1 y = false := by rw [nn_flt KD.out.ny k.ny]; simp; omega
    have e5 : flt 1065353216 y1 = false := by rw [nn_flt (by unfold nn; omega) KD.out.ny]; simp; omega
    have e6 : feq 0 0 = true := by rw [nn_feq (by unfold nn; omega) (by unfold nn; omega)]; simp
    clear k hx1 hge hab
    go_at_call 8
    refine (CT.out _).mono ?_
    rintro e w6 ⟨rfl, hb6⟩
    have G8_6 := Lib.hid ((C4.new w5 28 (.float .f32 h) (.float .f32 x) (.float .f32 y) (.int .i8 1)).below hb6)
    have HB6 := Lib.hid (bstep (balloc HB5.out (.cells #[.float .f32 h, .float .f32 x, .float .f32 y, .int .i8 1] 28)) hb6)
    clear hb6 HB5
    go_wp2_with fail
    go_at_call 10
    refine (CR.out _ ((bc HB6.out _ 0 hg).trans HM.out)).mono ?_
    rintro e w7 ⟨rfl, hb7⟩
    have G8_7 := Lib.hid (G8_6.out.below hb7)
    have HB7 := Lib.hid (bstep HB6.out hb7)
    clear G8_6 hb7 HB6
    obtain ⟨k8, a80, a81, a82, a83, b80, b81, b82, b83⟩ := G8_7.out
    go_wp2_with fail
    go_at_call 15
    refine (CWI.out _).mono ?_
    rintro e w8 ⟨rfl, hb8⟩
    clear k8 a80 a81 a82 a83 b80 b81 b82 b83
    have G8_8 := Lib.hid ((G8_7.out.below (balloc (Below.refl _ _) _)).below hb8)
    have G9_8 := Lib.hid ((C4.new w7 28 (.float .f32 h) (.float .f32 x) (.float .f32 y) (.int .i8 1)).below hb8)
    have HB8 := Lib.hid (bstep (balloc HB7.out (.cells #[.float .f32 h, .float .f32 x, .float .f32 y, .int .i8 1] 28)) hb8)
    clear G8_7 hb8 HB7
    obtain ⟨k8, a80, a81, a82, a83, b80, b81, b82, b83⟩ := G8_8.out
    go_wp2_with fail
    go_at_call 16
    refine (CWS.out _).mono ?_
    rintro e w9 ⟨rfl, hb9⟩
    clear k8 a80 a81 a82 a83 b80 b81 b82 b83
    have G8_9 := Lib.hid ((G8_8.out.below (balloc (Below.refl _ _) _)).below hb9)
    have G9_9 := Lib.hid ((G9_8.out.below (balloc (Below.refl _ _) _)).below hb9)
    have G11_9 := Lib.hid ((C4.new w8 28 (.float .f32 h) (.float .f32 x) (.float .f32 y1) (.int .i8 1)).below hb9)
    have HB9 := Lib.hid (bstep (balloc HB8.out (.cells #[.float .f32 h, .float .f32 x, .float .f32 y1, .int .i8 1] 28)) hb9)
    clear G8_8 G9_8 hb9 HB8
    obtain ⟨k8, a80, a81, a82, a83, b80, b81, b82, b83⟩ := G8_9.out
    go_wp2_with fail
    go_at_call 17
    refine (wear1 HK.out _).mono ?_
    rintro e w10 ⟨rfl, hb10⟩
    clear k8 a80 a81 a82 a83 b80 b81 b82 b83
    have G8_10 := Lib.hid ((G8_9.out.below (balloc (Below.refl _ _) _)).below hb10)
    have G9_10 := Lib.hid ((G9_9.out.below (balloc (Below.refl _ _) _)).below hb10)
    have G11_10 := Lib.hid ((G11_9.out.below (balloc (Below.refl _ _) _)).below hb10)
    have G13_10 := Lib.hid ((C4.new w9 28 (.float .f32 h) (.float .f32 x) (.float .f32 y1) (.int .i8 1)).below hb10)
    have HB10 := Lib.hid (bstep (balloc HB9.out (.cells #[.float .f32 h, .float .f32 x, .float .f32 y1, .int .i8 1] 28)) hb10)
    clear G8_9 G9_9 G11_9 hb10 HB9
    obtain ⟨k13, a130, a131, a132, a133, b130, b131, b132, b133⟩ := G13_10.out
    go_wp2_with fail
    go_at_call 17
    refine (wear1 KD.out _).mono ?_
    rintro e w11 ⟨rfl, hb11⟩
    clear k13 a130 a131 a132 a133 b130 b131 b132 b133
    have G8_11 := Lib.hid (G8_10.out.below hb11)
    have G9_11 := Lib.hid (G9_10.out.below hb11)
    have G11_11 := Lib.hid (G11_10.out.below hb11)
    have G13_11 := Lib.hid (G13_10.out.below hb11)
    have HB11 := Lib.hid (bstep HB10.out hb11)
    clear G8_10 G9_10 G11_10 G13_10 hb11 HB10
    obtain ⟨k8, a80, a81, a82, a83, b80, b81, b82, b83⟩ := G8_11.out
    go_wp2_with fail
    go_at_call 18
    refine (turn1 HK.out _).mono ?_
    rintro e w12 ⟨rfl, hb12⟩
    clear k8 a80 a81 a82 a83 b80 b81 b82 b83
    have G8_12 := Lib.hid (G8_11.out.below hb12)
    have G9_12 := Lib.hid (G9_11.out.below hb12)
    have G11_12 := Lib.hid (G11_11.out.below hb12)
    have G13_12 := Lib.hid (G13_11.out.below hb12)
    have HB12 := Lib.hid (bstep HB11.out hb12)
    clear G8_11 G9_11 G11_11 G13_11 hb12 HB11
    go_wp2_with fail
    go_at_call 18
    refine (turn0 HK.out _).mono ?_
    rintro e w13 ⟨rfl, hb13⟩
    have G8_13 := Lib.hid ((G8_12.out.below (balloc (Below.refl _ _) _)).below hb13)
    have G9_13 := Lib.hid ((G9_12.out.below (balloc (Below.refl _ _) _)).below hb13)
    have G11_13 := Lib.hid ((G11_12.out.below (balloc (Below.refl _ _) _)).below hb13)
    have G13_13 := Lib.hid ((G13_12.out.below (balloc (Below.refl _ _) _)).below hb13)
    have G19_13 := Lib.hid ((C4.new w12 28 (.float .f32 h) (.float .f32 x) (.float .f32 y) (.int .i8 0)).below hb13)
    have HB13 := Lib.hid (bstep (balloc HB12.out (.cells #[.float .f32 h, .float .f32 x, .float .f32 y, .int .i8 0] 28)) hb13)
    clear G8_12 G9_12 G11_12 G13_12 hb13 HB12
    obtain ⟨k8, a80, a81, a82, a83, b80, b81, b82, b83⟩ := G8_13.out
    go_wp2_with fail
    go_at_call 19
    refine (fresh1 HK.out _).mono ?_
    rintro e w14 ⟨rfl, hb14⟩
    clear k8 a80 a81 a82 a83 b80 b81 b82 b83
    have G8_14 := Lib.hid ((G8_13.out.below (balloc (Below.refl _ _) _)).below hb14)
    have G9_14 := Lib.hid ((G9_13.out.below (balloc (Below.refl _ _) _)).below hb14)
    have G11_14 := Lib.hid ((G11_13.out.below (balloc (Below.refl _ _) _)).below hb14)
    have G13_14 := Lib.hid ((G13_13.out.below (balloc (Below.refl _ _) _)).below hb14)
    have G19_14 := Lib.hid ((G19_13.out.below (balloc (Below.refl _ _) _)).below hb14)
    have G21_14 := Lib.hid ((C4.new w13 28 (.float .f32 h) (.float .f32 x) (.float .f32 y) (.int .i8 1)).below hb14)
    have HB14 := Lib.hid (bstep (balloc HB13.out (.cells #[.float .f32 h, .float .f32 x, .float .f32 y, .int .i8 1] 28)) hb14)
    clear G8_13 G9_13 G11_13 G13_13 G19_13 hb14 HB13
    go_wp2_with fail
    have Gn := Lib.hid (C4.new w14 28 (.float .f32 h) (.float .f32 0) (.float .f32 0) (.int .i8 0))
    have Ga8 := Lib.hid (G8_14.out.below (balloc (Below.refl _ _) (.cells #[.float .f32 h, .float .f32 0, .float .f32 0, .int .i8 0] 28)))
    have Ga9 := Lib.hid (G9_14.out.below (balloc (Below.refl _ _) (.cells #[.float .f32 h, .float .f32 0, .float .f32 0, .int .i8 0] 28)))
    have Ga11 := Lib.hid (G11_14.out.below (balloc (Below.refl _ _) (.cells #[.float .f32 h, .float .f32 0, .float .f32 0, .int .i8 0] 28)))
    have Ga13 := Lib.hid (G13_14.out.below (balloc (Below.refl _ _) (.cells #[.float .f32 h, .float .f32 0, .float .f32 0, .int .i8 0] 28)))
    have Ga19 := Lib.hid (G19_14.out.below (balloc (Below.refl _ _) (.cells #[.float .f32 h, .float .f32 0, .float .f32 0, .int .i8 0] 28)))
    have Ga21 := Lib.hid (G21_14.out.below (balloc (Below.refl _ _) (.cells #[.float .f32 h, .float .f32 0, .float .f32 0, .int .i8 0] 28)))
    have HBa := Lib.hid (balloc HB14.out (.cells #[.float .f32 h, .float .f32 0, .float .f32 0, .int .i8 0] 28))
    clear G8_14 G9_14 G11_14 G13_14 G19_14 G21_14 HB14
    obtain ⟨wa, hwa⟩ : ∃ wa, w14.alloc (.cells #[.float .f32 h, .float .f32 0, .float .f32 0, .int .i8 0] 28) = wa := ⟨_, rfl⟩
    rw [hwa] at Ga8 Ga9 Ga11 Ga13 Ga19 Ga21 Gn HBa ⊢
    clear hwa
    obtain ⟨k8, a80, a81, a82, a83, _, _, _, _⟩ := Ga8.out
    obtain ⟨k9, a90, a91, a92, a93, _, _, _, _⟩ := Ga9.out
    obtain ⟨k11, a110, a111, a112, a113, _, _, _, _⟩ := Ga11.out
    obtain ⟨k13, a130, a131, a132, a133, _, _, _, _⟩ := Ga13.out
    obtain ⟨k19, a190, a191, a192, a193, _, _, _, _⟩ := Ga19.out
    obtain ⟨k21, a210, a211, a212, a213, _, _, _, _⟩ := Ga21.out
    obtain ⟨k23, a230, a231, a232, a233, _, _, _, _⟩ := Gn.out
    have hneq := neq00
    have i1 : IntKind.i8.wrap 1 = 1 := by decide
    have i0 : IntKind.i8.wrap 0 = 0 := by decide
    refine region_at (l := ops17) (DIs (.bool true)) (by kernel_rfl) (by kernel_rfl) lex17 ?_
    dsimp only [List.append]
    repeat (first | (refine wpRel_plain rfl (fun K hK => ?_); intro w' hb'; have hc' := bc (Bel.out hb'); go_simp; (first | refine hK _ ?_ | refine ⟨(by first | exact hb' | exact Bel.drewN hb' _ | exact Bel.alloc hb' _), hK _ ?_⟩); clear hK K hb' hc') | (refine wpRel_step (fun K hK => ?_); go_simp; first | (refine hK _ ?_; clear hK K) | (intro w' hb'; have hc' := bc (Bel.out hb'); go_simp; (first | refine hK _ ?_ | refine ⟨(by first | exact hb' | exact Bel.drewN hb' _ | exact Bel.alloc hb' _), hK _ ?_⟩); clear hK K hb' hc')) | (refine wpRel_step (fun K hK => ?_); go_simp; intro w' hb'; have hc' := bc (Bel.out hb'); go_simp; refine ⟨?_, fun v hv => ?_⟩; (go_at_call 20; refine (sameS1 _ _ _ _).mono ?_; rintro e w'' ⟨rfl, hk⟩; exact ⟨_, rfl, rfl, Bel.step hb' hk⟩); (first | (obtain rfl : v = _ := hv) | (obtain rfl : v = _ := (Option.some.inj hv).symm)); (refine hK _ ?_; clear hK K hb' hc')) | (refine wpRel_step (fun K hK => ?_); go_simp; intro w' hb'; have hc' := bc (Bel.out hb'); go_simp; refine ⟨?_, fun v hv => ?_⟩; (go_at_call 21; refine (sameI1 _ _ _ _).mono ?_; rintro e w'' ⟨rfl, hk⟩; exact ⟨_, rfl, rfl, Bel.step hb' hk⟩); (first | (obtain rfl : v = _ := hv) | (obtain rfl : v = _ := (Option.some.inj hv).symm)); (refine hK _ ?_; clear hK K hb' hc')) | (refine wpRel_step (fun K hK => ?_); go_simp; intro w' hb'; have hc' := bc (Bel.out hb'); go_simp; refine ⟨?_, fun v hv => ?_⟩; (go_at_call 22; refine (valid1 (by first | exact HK.out | exact KD.out) _).mono ?_; rintro e w'' ⟨rfl, hk⟩; exact ⟨_, rfl, rfl, Bel.step hb' hk⟩); (first | (obtain rfl : v = _ := hv) | (obtain rfl : v = _ := (Option.some.inj hv).symm)); (refine hK _ ?_; clear hK K hb' hc')))
    (refine wpRel_nil ?_; intro w20 hb20; replace hb20 := Bel.out hb20; have hc20 := bc hb20; have hf20 := bf hb20; have hs20 := hb20.size; (try simp at hs20); (try have hz200 : w.heap.size < w20.heap.size := by omega); (try have hz201 : w.heap.size + 1 < w20.heap.size := by omega); (try have hz202 : w.heap.size + 1 + 1 < w20.heap.size := by omega); (try have hz203 : w.heap.size + 1 + 1 + 1 < w20.heap.size := by omega); (try have hy2020 : w2.heap.size < w20.heap.size := by omega); (try have hy2021 : w2.heap.size + 1 < w20.heap.size := by omega))
    clear k8 a80 a81 a82 a83 k9 a90 a91 a92 a93 k11 a110 a111 a112 a113 k13 a130 a131 a132 a133 k19 a190 a191 a192 a193 k21 a210 a211 a212 a213 k23 a230 a231 a232 a233 hneq i1 i0
    have G8q := Lib.hid (Ga8.out.below hb20)
    have HBq := Lib.hid (bstep HBa.out hb20)
    clear Ga8 Ga9 Ga11 Ga13 Ga19 Ga21 Gn HBa hb20 hc20 hf20 hs20
    obtain ⟨k8, a80, a81, a82, a83, b80, b81, b82, b83⟩ := G8q.out
    go_wp2_with fail
    go_at_call 23
    refine (CKI.out _).mono ?_
    rintro e w21 ⟨rfl, hb21⟩
    clear k8 a80 a81 a82 a83 b80 b81 b82 b83
    have G8_21 := Lib.hid (G8q.out.below hb21)
    have HB21 := Lib.hid (bstep HBq.out hb21)
    clear G8q hb21 HBq
    obtain ⟨k8, a80, a81, a82, a83, b80, b81, b82, b83⟩ := G8_21.out
    go_wp2_with fail
    go_at_call 24
    refine (CKS.out _).mono ?_
    rintro e w22 ⟨rfl, hb22⟩
    clear k8 a80 a81 a82 a83 b80 b81 b82 b83
    have G8_22 := Lib.hid (G8_21.out.below hb22)
    have HB22 := Lib.hid (bstep HB21.out hb22)
    clear G8_21 hb22 HB21
    clear  CT CR CWI CWS CKI CKS KD e1 e2 e3 e4 e5 e6
    have hab := HAB.out
    cases hz : wkF h y l q 105 0 with
    | none =>
      rw [hz] at hab
      have hf : flt q (wks h y l 0) = false := wkF_none (d := 104) hz
      have hf2 : fle y q = true := by
        rw [show wks h y l 0 = y from rfl, nn_flt (show nn q by have := HLQ.out.2; unfold nn; omega) HK.out.ny] at hf
        rw [nn_fle HK.out.ny (show nn q by have := HLQ.out.2; unfold nn; omega)]
        simp at hf ⊢; omega
      obtain ⟨rfl, rfl⟩ : za = 0 ∧ zb = 6 := by simp only [wkC, Prod.mk.injEq] at hab; omega
      clear HAB hab hz hf
      go_wp2
      go_ret
      exact ⟨by simp, HB22.out⟩
    | some n =>
      rw [hz] at hab
      obtain ⟨_, hn105, hT, hF⟩ := wkF_some 105 0 n hz
      obtain ⟨rfl, rfl⟩ : za = (n : Int) ∧ zb = 0 := by simp only [wkC, Prod.mk.injEq] at hab; omega
      have HT := Lib.hid hT
      have HF := Lib.hid hF
      have hnI : (n : Int) < 105 := by omega
      have hwb := HB22.out.size
      clear HAB hab hz hT hF hn105
      obtain ⟨k8, a80, a81, a82, a83, b80, b81, b82, b83⟩ := G8_22.out
      go_wp2
      go_loopw [30] (fun i wr => ∃ k : Nat, k ≤ n ∧ i = .int .i64 (k : Nat) ∧ Hid (C4 wr w22.heap.size (.float .f32 h) (.float .f32 x) (.float .f32 (wks h y l k)) (.int .i8 1)) ∧ Hid (C4 wr w5.heap.size (.float .f32 h) (.float .f32 x) (.float .f32 y) (.int .i8 1)) ∧ Below w.heap.size w wr) (fun i _ => n - (intOf i).toNat)
      case atStart => exact ⟨0, Nat.zero_le _, rfl, Lib.hid (C4.new w22 28 (.float .f32 h) (.float .f32 x) (.float .f32 y) (.int .i8 1)), Lib.hid (G8_22.out.below (balloc (Below.refl _ _) _)), balloc HB22.out _⟩
      case round =>
        obtain ⟨k, hk, rfl, HN, H8, hb⟩ := hrel
        clear k8 a80 a81 a82 a83 b80 b81 b82 b83
        obtain ⟨kn, n0, n1, n2, n3, m0, m1, m2, m3⟩ := HN.out
        obtain ⟨k8, a80, a81, a82, a83, b80, b81, b82, b83⟩ := H8.out
        by_cases hlt : k < n
        · have hq := HF.out k (Nat.zero_le _) hlt
          have hu := wks_part HK.out.1.1 HK.out.1.2 HK.out.2.2 HLQ.out.1 k
          have HS := Lib.hid (show wornV h (wks h y l k) l = wks h y l (k + 1) from rfl)
          obtain ⟨z, hz⟩ : ∃ z, wks h y l k = z := ⟨_, rfl⟩
          obtain ⟨z1, hz1⟩ : ∃ z, wks h y l (k + 1) = z := ⟨_, rfl⟩
          rw [hz] at hu hq HS n2
          rw [hz1] at HS
          have CW := Lib.hid (fun w => (HS.out ▸ wornI1 (show OkW h x z from ⟨HK.out.1, HK.out.2.1, hu⟩) HLQ.out.1 w : Calls Tryd.prog 15 #[.agg #[.float .f32 h, .float .f32 x, .float .f32 z, .int .i8 1], .float .f32 l] w fun e w' => e = .returned (.tuple #[.agg #[.float .f32 h, .float .f32 x, .float .f32 z1, .int .i8 1], .int .i64 0]) ∧ Below w.heap.size w w'))
          have HZ := Lib.hid hz
          have HZ1 := Lib.hid hz1
          have x1 : (k : Int) < (n : Int) := by omega
          clear hz hz1 hu HS
          go_wp2_with fail
          go_at_call 15
          refine (CW.out _).mono ?_
          rintro e wa ⟨rfl, hba⟩
          clear kn n0 n1 n2 n3 m0 m1 m2 m3 k8 a80 a81 a82 a83 b80 b81 b82 b83
          have HN2 := Lib.hid (HN.out.below hba)
          have H82 := Lib.hid (H8.out.below hba)
          have hbb := bstep hb hba
          rw [HZ.out] at HN2
          clear HN H8 hb hba CW
          obtain ⟨kn, n0, n1, n2, n3, m0, m1, m2, m3⟩ := HN2.out
          obtain ⟨k8, a80, a81, a82, a83, b80, b81, b82, b83⟩ := H82.out
          go_wp2
          go_roundw
          case rel =>
            have hne : w22.heap.size ≠ w5.heap.size := by have := G8_22.out.lt; omega
            refine ⟨k + 1, hlt, by go_num, Lib.hid (by rw [HZ1.out]; exact (HN2.out.setAll _ _ _ _).below (balloc (Below.refl _ _) _)), Lib.hid (((((H82.out.setOther hne _).setOther hne _).setOther hne _).setOther hne _).below (balloc (Below.refl _ _) _)), ?_⟩
            (repeat (first | with_reducible exact Below.refl _ _ | with_reducible refine bset ?_ (by first | (simp; done) | (simp; omega) | omega) _ | with_reducible refine balloc ?_ _ | with_reducible refine bdrewN ?_ _ | with_reducible refine bdrew ?_ | with_reducible refine bstep ?_ (by assumption)))
          case measure => simp [intOf]; omega
        · obtain rfl : k = n := by omega
          have hT := HT.out
          clear hlt HT HF
          go_wp2
          go_ret
          exact ⟨by simp [hT], hb⟩
end Go.Proofs.YtljcjgliddhgkaaDoor

namespace Go.Proofs.YtljcjgliddhgkaaDoor
open Go.RowKit Ieee
open Go.Proofs.YtljcjgliddhgkaaDoorW.PrintWords
set_option maxRecDepth 100000
theorem f6big_atW (A : Option Addr) (n c : Nat) (b : Bool) (hb : decide ((4096 : Int) < n) = b) (hn : n ≤ 9223372036854775807) (w : World) :
    Calls Tryd.prog 12 #[.slice A n c] w fun e w' => e = .returned (.bool b) ∧ w = w' := by
  rw [← hb]
  exact f6big_any A n c hn w
theorem law_wears (A : Option Addr) (c : Nat) (xs : List Int) (h1 : xs.length ≤ c) (h2 : c ≤ maxLen) (_ : A = none → xs.length = 0 ∧ c = 0)
    (B : Option Addr) (c' : Nat) (ys : List Int) (h3 : ys.length ≤ c') (h4 : c' ≤ maxLen) (_ : B = none → ys.length = 0 ∧ c' = 0) (m : Int) (w : World)
    (hA : Kd.C kB w A xs.length xs ∧ ∀ i, i < xs.length → 0 ≤ xs.getD i 0 ∧ xs.getD i 0 ≤ 255) (hB : Kd.C kB w B ys.length ys ∧ ∀ i, i < ys.length → 0 ≤ ys.getD i 0 ∧ ys.getD i 0 ≤ 255)
    (hm : w.cell? ⟨2, 0, none⟩ = some (.int .i64 m)) :
    Calls Tryd.prog 5 #[.slice A xs.length c, .slice B ys.length c'] w fun e w' => e = .returned (.bool true) ∧ Below w.heap.size w w' := by
  unfold maxLen at h2 h4
  by_cases hx : xs.length ≤ 4096
  · by_cases hy : ys.length ≤ 4096
    · exact wears_walk A B c c' xs ys m w hm ⟨hA.1, hA.2, by omega⟩ ⟨hB.1, hB.2, by omega⟩ hx hy
    · have H1 := Lib.hid (f6big_atW A xs.length c false (decide_eq_false (by omega)) (by omega) w)
      have H2 := Lib.hid (f6big_atW B ys.length c' true (decide_eq_true (by omega)) (by omega) w)
      clear hA hB hm
      go_enter Tryd.func5, Tryd.ntmps5
      go_wp2_with (first | (go_at_call 12; refine (H1.out).mono ?_; rintro e w' ⟨rfl, rfl⟩) | (go_at_call 12; refine (H2.out).mono ?_; rintro e w' ⟨rfl, rfl⟩))
      go_ret
      exact ⟨rfl, Below.refl _ _⟩
  · have H1 := Lib.hid (f6big_atW A xs.length c true (decide_eq_true (by omega)) (by omega) w)
    clear hA hB hm
    go_enter Tryd.func5, Tryd.ntmps5
    go_wp2_with (go_at_call 12; refine (H1.out).mono ?_; rintro e w' ⟨rfl, rfl⟩)
    go_ret
    exact ⟨rfl, Below.refl _ _⟩
end Go.Proofs.YtljcjgliddhgkaaDoor
