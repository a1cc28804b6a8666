/- The law FnExactWidestPlay: the walk. -/
import Derived.Test.YtpkmmelinfcdaaaPlay9
import Derived.Test.YtpkmmelinfcdaaaOpenP
namespace Go.Proofs.Ytpkmmelinfcdaaa
open Go.RowKit Ieee
open Go.Proofs.YtpkmmelinfcdaaaW.PrintWords
set_option maxRecDepth 100000
attribute [local irreducible] wpRel

/-- A widening behind a guard that holds. -/
theorem wpList_conv64h {P : Program} {ops : Array Oper} {rest : List Oper} {a : Act} {w : World} {Q : Exit → Act → World → Prop} {o : Oper} (hw : Region.wanted o (yielded ops a.tmps) = true)
    {src dst : TypeId} {x : Operand} (ho : o.op = .convert src dst x) (hs : (P.underlying src).isSome = true) (hd : P.underlying dst = some (.float .f64))
    {b : Nat} (hx : a.eval x = .float .f32 b)
    (h : ∀ r n, FV6 r (widen (cn b)) → wpList P ops Q rest (a.put o.dst (.float .f64 r)) (w.drewN n)) : wpList P ops Q (o :: rest) a w := by
  refine wpList_step fun K hK => ?_
  rw [if_pos hw]
  obtain ⟨r, n, hr, hv⟩ := run_conv64 (P := P) w src dst b hs hd
  have hh := hK _ _ (h r n hv)
  unfold Oper.wp execOp
  simp only [ho, hx, Sem.run_bind, hr, Result.andThen_ok, Sem.run_pure, Oper.upon]
  exact hh

set_option maxHeartbeats 8000000 in
theorem law_widestPlay (A : Option Addr) (c : Nat) (t : List (Int × Int × Nat)) (lc : t.length ≤ c) (lm : c ≤ maxLen) (_ : A = none → t.length = 0 ∧ c = 0) (B : Option Addr) (c' : Nat) (ps : List Nat) (lc' : ps.length ≤ c') (lm' : c' ≤ maxLen) (_ : B = none → ps.length = 0 ∧ c' = 0) (w : World) (hA : Kd.C kP w A t.length t) (hB : Kd.C kf w B ps.length ps) :
    Calls Try.prog 6 #[.slice A t.length c, .slice B ps.length c'] w fun e w' => e = .returned (.bool true) ∧ Below w.heap.size w w' := by
  have HA : Hid (Kd.C kP w A t.length t) := Lib.hid hA
  have HB : Hid (Kd.C kf w B ps.length ps) := Lib.hid hB
  clear hA hB
  unfold maxLen at lm lm'
  by_cases hm : ps.length ≤ 1048576
  · by_cases hn : t.length ≤ 1048576
    · have hspec := fun A B c c' w h1 h2 => widest_spec A B c c' t ps w h1 hn h2 hm
      have himpl := fun A B c c' w h1 h2 h3 => widest_impl A B c c' t ps w h1 hn h2 h3 hm
      generalize outWP t ps = o at hspec himpl
      obtain ⟨bi, x, cd⟩ := o
      have HSp := Lib.hid hspec
      have HIm := Lib.hid himpl
      clear hspec himpl
      go_enter Try.func6, Try.ntmps6
      go_wp2_with (go_at_call 8; refine (szTrain_le _ _ _ _ (by omega) (by decide) _).mono ?_; rintro e w' ⟨rfl, rfl⟩)
      go_at_call 10
      refine (toTrain_any A c t _ HA.out lc hn).mono ?_
      rintro e w1 ⟨v1, rfl, hR1, hb1⟩
      obtain ⟨A1, c1, rfl, hc1, hC1⟩ := Kd.R_reads hR1
      have H1 := Lib.hid hC1
      clear hR1 hC1
      go_wp2_with fail
      go_at_call 11
      refine (toF_any B c' ps _ (Kd.C_below HB.out hb1) hm).mono ?_
      rintro e w2 ⟨v2, rfl, hR2, hb2⟩
      obtain ⟨B2, c2, rfl, hc2, hC2⟩ := hR2.reads
      have H2 := Lib.hid hC2
      have k2 := bstep hb1 hb2
      clear hR2 hC2
      go_wp2_with fail
      go_at_call 23
      refine (HSp.out A1 B2 c1 c2 _ (Kd.C_below H1.out hb2) H2.out).mono ?_
      rintro e w3 ⟨r, rfl, hr, hb3⟩
      have HR := Lib.hid hr
      have k3 := bstep k2 hb3
      clear hr
      go_wp2_with fail
      go_at_call 10
      refine (toTrain_any A c t _ (Kd.C_below HA.out k3) lc hn).mono ?_
      rintro e w4 ⟨v4, rfl, hR4, hb4⟩
      obtain ⟨A4, c4, rfl, hc4, hC4⟩ := Kd.R_reads hR4
      have H4 := Lib.hid hC4
      have k4 := bstep k3 hb4
      clear hR4 hC4
      go_wp2_with fail
      go_at_call 11
      refine (toF_any B c' ps _ (Kd.C_below HB.out k4) hm).mono ?_
      rintro e w5 ⟨v5, rfl, hR5, hb5⟩
      obtain ⟨B5, c5, rfl, hc5, hC5⟩ := hR5.reads
      have H5 := Lib.hid hC5
      have k5 := bstep k4 hb5
      clear hR5 hC5
      go_wp2_with fail
      go_at_call 24
      refine (HIm.out A4 B5 c4 c5 _ (Kd.C_below H4.out hb5) H5.out hc5).mono ?_
      rintro e w6 ⟨s, rfl, hs, hb6⟩
      have HS := Lib.hid hs
      have k6 := bstep k5 hb6
      clear hs
      go_wp2_with (first | (refine wpList_conv64h (o := ⟨some 47, _, _, _, _, _⟩) (by go_simp) rfl (by kernel_rfl) Try.underlying33 rfl ?_; intro r47 n47 h47) | (refine wpList_conv64h (o := ⟨some 49, _, _, _, _, _⟩) (by go_simp) rfl (by kernel_rfl) Try.underlying33 rfl ?_; intro r49 n49 h49) | (go_at_call 13; refine (sameFloat_any _ _ h47.2 (wide_same' (HS.out.1.trans HR.out.1.symm) h47 h49) _).mono ?_; rintro e w' ⟨rfl, rfl⟩))
      go_at_call 10
      refine (toTrain_any A c t _ (Kd.C_below HA.out (bdrewN k6 _)) lc hn).mono ?_
      rintro e w7 ⟨v7, rfl, hR7, hb7⟩
      obtain ⟨A7, c7, rfl, hc7, hC7⟩ := Kd.R_reads hR7
      have H7 := Lib.hid hC7
      have k7 := bstep (bdrewN k6 _) hb7
      have b47 := bstep (bdrewN (bstep hb5 hb6) _) hb7
      have b57 := bstep (bdrewN hb6 _) hb7
      clear hR7 hC7
      go_wp2_with fail
      go_at_call 14
      refine (eqTrain_any A4 A7 c4 c7 t _ (Kd.C_below H4.out b47) H7.out hn).mono ?_
      rintro e w8 ⟨rfl, hb8⟩
      have k8 := bstep k7 hb8
      go_wp2_with fail
      go_at_call 11
      refine (toF_any B c' ps _ (Kd.C_below HB.out k8) hm).mono ?_
      rintro e w9 ⟨v9, rfl, hR9, hb9⟩
      obtain ⟨B9, c9, rfl, hc9, hC9⟩ := hR9.reads
      have H9 := Lib.hid hC9
      clear hR9 hC9
      go_wp2_with fail
      go_at_call 15
      refine (eqF_any B5 B9 c5 c9 ps _ (Kd.C_below H5.out (bstep (bstep b57 hb8) hb9)) H9.out hm).mono ?_
      rintro e w10 ⟨rfl, hb10⟩
      go_wp2
      go_ret
      exact ⟨by simp, bstep (bstep k8 hb9) hb10⟩
    · go_enter Try.func6, Try.ntmps6
      go_wp2_with (go_at_call 8; refine (szTrain_gt _ _ _ _ (by omega) (by decide) (by decide) (by omega) _).mono ?_; rintro e w' ⟨rfl, rfl⟩)
      go_ret
      exact ⟨rfl, Below.refl _ _⟩
  · have hm' : (1048576 : Int) < ps.length := by omega
    go_enter Try.func6, Try.ntmps6
    go_wp2
    go_ret
    exact ⟨rfl, Below.refl _ _⟩
end Go.Proofs.Ytpkmmelinfcdaaa
