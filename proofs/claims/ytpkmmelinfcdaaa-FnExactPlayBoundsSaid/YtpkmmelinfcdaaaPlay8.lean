/- The law FnExactPlayBounds: the walk. -/
import Derived.Test.YtpkmmelinfcdaaaPlay7
import Derived.Test.YtpkmmelinfcdaaaOpenP
namespace Go.Proofs.Ytpkmmelinfcdaaa
open Go.RowKit Ieee
open Go.Proofs.YtpkmmelinfcdaaaW.PrintWords
set_option maxRecDepth 100000
attribute [local irreducible] wpRel

/-- A widening behind a guard that holds. -/
theorem wpList_conv64g {P : Program} {ops : Array Oper} {rest : List Oper} {a : Act} {w : World} {Q : Exit → Act → World → Prop} {o : Oper} (hw : Region.wanted o (yielded ops a.tmps) = true)
    {src dst : TypeId} {x : Operand} (ho : o.op = .convert src dst x) (hs : (P.underlying src).isSome = true) (hd : P.underlying dst = some (.float .f64))
    {b : Nat} (hx : a.eval x = .float .f32 b)
    (h : ∀ r n, FV6 r (widen (cn b)) → wpList P ops Q rest (a.put o.dst (.float .f64 r)) (w.drewN n)) : wpList P ops Q (o :: rest) a w := by
  refine wpList_step fun K hK => ?_
  rw [if_pos hw]
  obtain ⟨r, n, hr, hv⟩ := run_conv64 (P := P) w src dst b hs hd
  have hh := hK _ _ (h r n hv)
  unfold Oper.wp execOp
  simp only [ho, hx, Sem.run_bind, hr, Result.andThen_ok, Sem.run_pure, Oper.upon]
  exact hh

set_option maxHeartbeats 8000000 in
theorem law_playBounds (A : Option Addr) (c : Nat) (t : List (Int × Int × Nat)) (lc : t.length ≤ c) (lm : c ≤ maxLen) (_ : A = none → t.length = 0 ∧ c = 0) (B : Option Addr) (c' : Nat) (ls : List Nat) (lc' : ls.length ≤ c') (lm' : c' ≤ maxLen) (_ : B = none → ls.length = 0 ∧ c' = 0) (D : Option Addr) (d : Nat) (hs : List Nat) (ld : hs.length ≤ d) (lmd : d ≤ maxLen) (_ : D = none → hs.length = 0 ∧ d = 0) (w : World) (hA : Kd.C kP w A t.length t) (hB : Kd.C kf w B ls.length ls) (hD : Kd.C kf w D hs.length hs) :
    Calls Try.prog 4 #[.slice A t.length c, .slice B ls.length c', .slice D hs.length d] w fun e w' => e = .returned (.bool true) ∧ Below w.heap.size w w' := by
  have HA : Hid (Kd.C kP w A t.length t) := Lib.hid hA
  have HB : Hid (Kd.C kf w B ls.length ls) := Lib.hid hB
  have HD : Hid (Kd.C kf w D hs.length hs) := Lib.hid hD
  clear hA hB hD
  unfold maxLen at lm lm' lmd
  by_cases hm : ls.length ≤ 1048576
  · by_cases hm2 : hs.length ≤ 1048576
    · by_cases hn : t.length ≤ 1048576
      · have hspec := fun A B D c c' d w h1 h2 h3 => playBounds_spec A B D c c' d t ls hs w h1 hn h2 hm h3 hm2
        have himpl := fun A B D c c' d w h1 h2 h3 h4 h5 => playBounds_impl A B D c c' d t ls hs w h1 hn h2 h3 hm h4 h5 hm2
        generalize outPB t ls hs = o at hspec himpl
        obtain ⟨x, y, cd⟩ := o
        have HSp := Lib.hid hspec
        have HIm := Lib.hid himpl
        clear hspec himpl
        go_enter Try.func4, Try.ntmps4
        go_wp2_with (go_at_call 8; refine (szTrain_le _ _ _ _ (by omega) (by decide) _).mono ?_; rintro e w' ⟨rfl, rfl⟩)
        go_at_call 10
        refine (toTrain_any A c t _ HA.out lc hn).mono ?_
        rintro e w1 ⟨v1, rfl, hR1, hb1⟩
        obtain ⟨A1, c1, rfl, hc1, hC1⟩ := Kd.R_reads hR1
        have H1 := Lib.hid hC1
        clear hR1 hC1
        go_wp2_with fail
        go_at_call 11
        refine (toF_any B c' ls _ (Kd.C_below HB.out hb1) hm).mono ?_
        rintro e w2 ⟨v2, rfl, hR2, hb2⟩
        obtain ⟨B2, c2, rfl, hc2, hC2⟩ := hR2.reads
        have H2 := Lib.hid hC2
        have k2 := bstep hb1 hb2
        clear hR2 hC2
        go_wp2_with fail
        go_at_call 11
        refine (toF_any D d hs _ (Kd.C_below HD.out k2) hm2).mono ?_
        rintro e w2a ⟨v2a, rfl, hR2, hb2a⟩
        obtain ⟨D2, d2, rfl, hd2, hC2⟩ := hR2.reads
        have H2a := Lib.hid hC2
        have k2a := bstep k2 hb2a
        clear hR2 hC2
        go_wp2_with fail
        go_at_call 16
        refine (HSp.out A1 B2 D2 c1 c2 d2 _ (Kd.C_below H1.out (bstep hb2 hb2a)) (Kd.C_below H2.out hb2a) H2a.out).mono ?_
        rintro e w3 ⟨r, s, rfl, hr, hsv, hb3⟩
        have HR := Lib.hid hr
        have HS := Lib.hid hsv
        have k3 := bstep k2a hb3
        clear hr hsv
        go_wp2_with fail
        go_at_call 10
        refine (toTrain_any A c t _ (Kd.C_below HA.out k3) lc hn).mono ?_
        rintro e w4 ⟨v4, rfl, hR4, hb4⟩
        obtain ⟨A4, c4, rfl, hc4, hC4⟩ := Kd.R_reads hR4
        have H4 := Lib.hid hC4
        have k4 := bstep k3 hb4
        clear hR4 hC4
        go_wp2_with fail
        go_at_call 11
        refine (toF_any B c' ls _ (Kd.C_below HB.out k4) hm).mono ?_
        rintro e w5 ⟨v5, rfl, hR5, hb5⟩
        obtain ⟨B5, c5, rfl, hc5, hC5⟩ := hR5.reads
        have H5 := Lib.hid hC5
        have k5 := bstep k4 hb5
        clear hR5 hC5
        go_wp2_with fail
        go_at_call 11
        refine (toF_any D d hs _ (Kd.C_below HD.out k5) hm2).mono ?_
        rintro e w5a ⟨v5a, rfl, hR5, hb5a⟩
        obtain ⟨D5, d5, rfl, hd5, hC5⟩ := hR5.reads
        have H5a := Lib.hid hC5
        have k5a := bstep k5 hb5a
        clear hR5 hC5
        go_wp2_with fail
        go_at_call 17
        refine (HIm.out A4 B5 D5 c4 c5 d5 _ (Kd.C_below H4.out (bstep hb5 hb5a)) (Kd.C_below H5.out hb5a) hc5 H5a.out hd5).mono ?_
        rintro e w6 ⟨r', s', rfl, hr, hsv, hb6⟩
        have HR2 := Lib.hid hr
        have HS2 := Lib.hid hsv
        have k6 := bstep k5a hb6
        clear hr hsv
        go_wp2_with (first | (refine wpList_conv64 (o := ⟨some 54, _, _, _, _, _⟩) rfl rfl (by kernel_rfl) Try.underlying33 rfl ?_; intro r54 n54 h54) | (refine wpList_conv64 (o := ⟨some 56, _, _, _, _, _⟩) rfl rfl (by kernel_rfl) Try.underlying33 rfl ?_; intro r56 n56 h56) | (refine wpList_conv64g (o := ⟨some 61, _, _, _, _, _⟩) (by go_simp) rfl (by kernel_rfl) Try.underlying33 rfl ?_; intro r61 n61 h61) | (refine wpList_conv64g (o := ⟨some 63, _, _, _, _, _⟩) (by go_simp) rfl (by kernel_rfl) Try.underlying33 rfl ?_; intro r63 n63 h63) | (go_at_call 13; refine (sameFloat_any _ _ h54.2 (wide_same' (HR2.out.1.trans HR.out.1.symm) h54 h56) _).mono ?_; rintro e w' ⟨rfl, rfl⟩; clear h54 h56) | (go_at_call 13; refine (sameFloat_any _ _ h61.2 (wide_same' (HS2.out.1.trans HS.out.1.symm) h61 h63) _).mono ?_; rintro e w' ⟨rfl, rfl⟩))
        go_at_call 10
        refine (toTrain_any A c t _ (Kd.C_below HA.out (bdrewN k6 _)) lc hn).mono ?_
        rintro e w7 ⟨v7, rfl, hR7, hb7⟩
        obtain ⟨A7, c7, rfl, hc7, hC7⟩ := Kd.R_reads hR7
        have H7 := Lib.hid hC7
        have k7 := bstep (bdrewN k6 _) hb7
        have b5a7 := bstep (bdrewN hb6 _) hb7
        have b57 := bstep hb5a b5a7
        have b47 := bstep hb5 b57
        clear hR7 hC7
        go_wp2_with fail
        go_at_call 14
        refine (eqTrain_any A4 A7 c4 c7 t _ (Kd.C_below H4.out b47) H7.out hn).mono ?_
        rintro e w8 ⟨rfl, hb8⟩
        have k8 := bstep k7 hb8
        go_wp2_with fail
        go_at_call 11
        refine (toF_any B c' ls _ (Kd.C_below HB.out k8) hm).mono ?_
        rintro e w9 ⟨v9, rfl, hR9, hb9⟩
        obtain ⟨B9, c9, rfl, hc9, hC9⟩ := hR9.reads
        have H9 := Lib.hid hC9
        have k9 := bstep k8 hb9
        clear hR9 hC9
        go_wp2_with fail
        go_at_call 15
        refine (eqF_any B5 B9 c5 c9 ls _ (Kd.C_below H5.out (bstep (bstep b57 hb8) hb9)) H9.out hm).mono ?_
        rintro e w10 ⟨rfl, hb10⟩
        have k10 := bstep k9 hb10
        go_wp2_with fail
        go_at_call 11
        refine (toF_any D d hs _ (Kd.C_below HD.out k10) hm2).mono ?_
        rintro e w11 ⟨v11, rfl, hR11, hb11⟩
        obtain ⟨D11, d11, rfl, hd11, hC11⟩ := hR11.reads
        have H11 := Lib.hid hC11
        clear hR11 hC11
        go_wp2_with fail
        go_at_call 15
        refine (eqF_any D5 D11 d5 d11 hs _ (Kd.C_below H5a.out (bstep (bstep (bstep (bstep b5a7 hb8) hb9) hb10) hb11)) H11.out hm2).mono ?_
        rintro e w12 ⟨rfl, hb12⟩
        go_wp2
        go_ret
        exact ⟨by simp, bstep (bstep k10 hb11) hb12⟩
      · go_enter Try.func4, Try.ntmps4
        go_wp2_with (go_at_call 8; refine (szTrain_gt _ _ _ _ (by omega) (by decide) (by decide) (by omega) _).mono ?_; rintro e w' ⟨rfl, rfl⟩)
        go_ret
        exact ⟨rfl, Below.refl _ _⟩
    · have hm' : (1048576 : Int) < hs.length := by omega
      go_enter Try.func4, Try.ntmps4
      go_wp2
      go_ret
      exact ⟨rfl, Below.refl _ _⟩
  · have hm' : (1048576 : Int) < ls.length := by omega
    go_enter Try.func4, Try.ntmps4
    go_wp2
    go_ret
    exact ⟨rfl, Below.refl _ _⟩
end Go.Proofs.Ytpkmmelinfcdaaa
