/- The law FnExactAnswerOf: the walk. -/
import Derived.Test.YtiipnbccfbielaaAns3
namespace Go.Proofs.Ytiipnbccfbielaa
open Go.RowKit Ieee
open Go.Proofs.YtiipnbccfbielaaW.PrintWords
set_option maxRecDepth 100000

/-- eqFloat32S of two rows that hold the same. -/
theorem eqFR_any {b b' : Nat} {u v : Value} {xs : List Nat} {w : World} (hu : FR w b u xs) (hv : FR w b' v xs) (hm : xs.length ≤ 1048576) :
    Calls Try.prog 29 #[u, v] w fun e w' => e = .returned (.bool true) ∧ Below w.heap.size w w' := by
  obtain ⟨A, c, rfl, _, hA⟩ := hu.reads
  obtain ⟨B, c', rfl, _, hB⟩ := hv.reads
  exact eqF_any A B c c' xs w hA hB hm
theorem heldFR_any {b : Nat} {v : Value} {n : Nat} {m : Int} {w : World} (hv : FR w b v (mks m n)) (hm : n ≤ 1048576) (h0 : 0 ≤ m) (h1 : m ≤ 1000000000) :
    Calls Try.prog 32 #[v, .int .i64 m] w fun e w' => e = .returned (.int .i64 (m + n)) ∧ w = w' := by
  obtain ⟨A, c, rfl, _, hA⟩ := hv.reads
  rw [mks_length] at hA ⊢
  exact heldF_any A c n m w hA hm h0 h1

set_option maxHeartbeats 8000000 in
theorem law_answerOf (A : Option Addr) (c : Nat) (l : List (Nat × Nat)) (lc : l.length ≤ c) (lm : c ≤ maxLen) (_ : A = none → l.length = 0 ∧ c = 0) (q : Nat) (_ : q < 4294967296) (w : World) (hA : Kd.C kD w A l.length l) :
    Calls Try.prog 7 #[.slice A l.length c, .float .f32 q] w fun e w' => e = .returned (.bool true) ∧ Below w.heap.size w w' := by
  have HA : Hid (Kd.C kD w A l.length l) := Lib.hid hA
  clear hA
  unfold maxLen at lm
  by_cases hm : l.length ≤ 1048576
  · have hspec := fun A c w => answerOf_spec A c l q w
    have himpl := fun A c w => answerOf_impl A c l q w
    have hlen := outL_len l q
    generalize outL l q = o at hspec himpl hlen
    obtain ⟨xs, ys, cd⟩ := o
    have hx : xs.length ≤ 10 := hlen.1
    have hy : ys.length ≤ 10 := hlen.2
    have HSp := Lib.hid hspec
    have HIm := Lib.hid himpl
    clear hspec himpl hlen
    go_enter Try.func7, Try.ntmps7
    go_wp2_with (go_at_call 15; refine (szDiscS_le _ _ _ hm _).mono ?_; rintro e w' ⟨rfl, rfl⟩)
    -- the reference
    go_at_call 17
    refine (toDiscS_any A c l _ HA.out lc hm).mono ?_
    rintro e w1 ⟨v1, rfl, hR1, hb1⟩
    obtain ⟨A1, c1, rfl, hc1, hC1⟩ := Kd.R_reads hR1
    have H1 := Lib.hid hC1
    clear hR1 hC1
    go_wp2_with fail
    go_at_call 27
    refine (HSp.out A1 c1 _ H1.out hm).mono ?_
    rintro e w2 ⟨s1, s2, rfl, f1, f2, _, hb2⟩
    have S1 := Lib.hid f1
    have S2 := Lib.hid f2
    clear f1 f2
    have k2 := bstep hb1 hb2
    -- the program
    go_wp2_with fail
    go_at_call 17
    refine (toDiscS_any A c l _ (Kd.C_below HA.out k2) lc hm).mono ?_
    rintro e w3 ⟨v3, rfl, hR3, hb3⟩
    obtain ⟨A3, c3, hv3, hc3, hC3⟩ := Kd.R_reads hR3
    have R3 := Lib.hid hR3
    have H3 := Lib.hid hC3
    have k3 := bstep k2 hb3
    subst hv3
    clear hR3 hC3
    go_wp2_with fail
    go_at_call 28
    refine (HIm.out A3 c3 _ H3.out hm).mono ?_
    rintro e w4 ⟨g1, g2, rfl, f1, f2, fn, hb4⟩
    have G1 := Lib.hid f1
    have G2 := Lib.hid f2
    have GN := Lib.hid fn
    clear f1 f2 fn
    have k4 := bstep k3 hb4
    -- compared
    have S1w4 := Lib.hid ((S1.out.below hb3).below hb4)
    have S2w4 := Lib.hid ((S2.out.below hb3).below hb4)
    go_wp2_with fail
    go_at_call 29
    refine (eqFR_any G1.out S1w4.out (by omega)).mono ?_
    rintro e w5 ⟨rfl, hb5⟩
    have k5 := bstep k4 hb5
    go_wp2_with fail
    go_at_call 29
    refine (eqFR_any (G2.out.below hb5) (S2w4.out.below hb5) (by omega)).mono ?_
    rintro e w6 ⟨rfl, hb6⟩
    have k6 := bstep k5 hb6
    have b46 := bstep hb5 hb6
    -- the argument is as it was
    go_wp2_with fail
    go_at_call 17
    refine (toDiscS_any A c l _ (Kd.C_below HA.out k6) lc hm).mono ?_
    rintro e w7 ⟨v7, rfl, hR7, hb7⟩
    obtain ⟨A7, c7, rfl, hc7, hC7⟩ := Kd.R_reads hR7
    have k7 := bstep k6 hb7
    have H7 := Lib.hid hC7
    have b37 := bstep (bstep hb4 b46) hb7
    clear hR7 hC7
    go_wp2_with fail
    go_at_call 19
    refine (eqDiscS_any A3 A7 c3 c7 l _ (Kd.C_below H3.out b37) H7.out hm).mono ?_
    rintro e w8 ⟨rfl, hb8⟩
    have k8 := bstep k7 hb8
    have b38 := bstep b37 hb8
    have b48 := bstep (bstep b46 hb7) hb8
    -- the argument marked
    have R8 := Lib.hid (Kd.R_below R3.out b38)
    have G1w8 := Lib.hid (G1.out.below b48)
    have G2w8 := Lib.hid (G2.out.below b48)
    have S1w8 := Lib.hid (S1w4.out.below b48)
    have S2w8 := Lib.hid (S2w4.out.below b48)
    go_wp2_with fail
    go_at_call 30
    refine (markDiscS_any _ l 1 _ _ R8.out hm (by decide) (by decide)).mono ?_
    rintro e w9 ⟨rfl, hg9⟩
    have G1w9 := Lib.hid (G1w8.out.grown hg9 (G1w8.out.ne_disc R8.out))
    have G2w9 := Lib.hid (G2w8.out.grown hg9 (G2w8.out.ne_disc R8.out))
    have S1w9 := Lib.hid (S1w8.out.grown hg9 (S1w8.out.ne_disc R8.out))
    have S2w9 := Lib.hid (S2w8.out.grown hg9 (S2w8.out.ne_disc R8.out))
    have hs3 : w.heap.size ≤ w2.heap.size := k2.size
    have k9 : Below w.heap.size w w9 := k8.grown hg9 k8.size (fun k hk => Nat.le_trans hs3 (Kd.R_base R8.out k hk))
    clear G1w8 G2w8 S1w8 S2w8 S1w4 S2w4
    go_wp2_with fail
    go_at_call 29
    refine (eqFR_any G1w9.out S1w9.out (by omega)).mono ?_
    rintro e w10 ⟨rfl, hb10⟩
    go_wp2_with fail
    go_at_call 29
    refine (eqFR_any (G2w9.out.below hb10) (S2w9.out.below hb10) (by omega)).mono ?_
    rintro e w11 ⟨rfl, hb11⟩
    have b911 := bstep hb10 hb11
    have k11 := bstep k9 b911
    have G1w11 := Lib.hid (G1w9.out.below b911)
    have G2w11 := Lib.hid (G2w9.out.below b911)
    have S1w11 := Lib.hid (S1w9.out.below b911)
    have S2w11 := Lib.hid (S2w9.out.below b911)
    -- the results marked
    have hs4 : w2.heap.size ≤ w3.heap.size := hb3.size
    have base1 : ∀ k, g1.ownBlock = some k → w3.heap.size ≤ k := G1.out.base_le
    have base2 : ∀ k, g2.ownBlock = some k → w3.heap.size ≤ k := G2.out.base_le
    have lt1 : ∀ k, s1.ownBlock = some k → k < w2.heap.size := S1.out.lt
    have lt2 : ∀ k, s2.ownBlock = some k → k < w2.heap.size := S2.out.lt
    have n11 : ∀ k, s1.ownBlock = some k → some k ≠ g1.ownBlock := fun k hk he => by have := lt1 k hk; have := base1 k he.symm; omega
    have n12 : ∀ k, s1.ownBlock = some k → some k ≠ g2.ownBlock := fun k hk he => by have := lt1 k hk; have := base2 k he.symm; omega
    have n21 : ∀ k, s2.ownBlock = some k → some k ≠ g1.ownBlock := fun k hk he => by have := lt2 k hk; have := base1 k he.symm; omega
    have n22 : ∀ k, s2.ownBlock = some k → some k ≠ g2.ownBlock := fun k hk he => by have := lt2 k hk; have := base2 k he.symm; omega
    have N := Lib.hid (And.intro base1 (And.intro base2 (And.intro n11 (And.intro n12 (And.intro n21 n22)))))
    clear base1 base2 lt1 lt2 n11 n12 n21 n22 G1w9 G2w9 S1w9 S2w9
    go_wp2_with fail
    go_at_call 31
    refine (markF_any g1 xs 1 _ _ G1w11.out (by omega) (by decide) (by decide)).mono ?_
    rintro e w12 ⟨rfl, f1, hg12⟩
    have G1w12 := Lib.hid (FR.mk f1)
    have G2w12 := Lib.hid (G2w11.out.grown hg12 (fun k hk he => GN.out k he.symm hk))
    have S1w12 := Lib.hid (S1w11.out.grown hg12 N.out.2.2.1)
    have S2w12 := Lib.hid (S2w11.out.grown hg12 N.out.2.2.2.2.1)
    have k12 : Below w.heap.size w w12 := k11.grown hg12 k11.size (fun k hk => by have := N.out.1 k hk; omega)
    clear f1 G1w11 G2w11 S1w11 S2w11
    go_wp2_with fail
    go_at_call 31
    refine (markF_any g2 ys _ _ _ G2w12.out (by omega) (by omega) (by omega)).mono ?_
    rintro e w13 ⟨rfl, f2, hg13⟩
    have G2w13 := Lib.hid (FR.mk f2)
    have G1w13 := Lib.hid (G1w12.out.grown hg13 (fun k hk he => GN.out k hk he.symm))
    have S1w13 := Lib.hid (S1w12.out.grown hg13 N.out.2.2.2.1)
    have S2w13 := Lib.hid (S2w12.out.grown hg13 N.out.2.2.2.2.2)
    have k13 : Below w.heap.size w w13 := k12.grown hg13 k12.size (fun k hk => by have := N.out.2.1 k hk; omega)
    clear f2 G1w12 G2w12 S1w12 S2w12
    go_wp2_with fail
    go_at_call 32
    refine (heldFR_any G1w13.out (by omega) (by decide) (by decide)).mono ?_
    rintro e w' ⟨rfl, rfl⟩
    go_wp2_with fail
    go_at_call 32
    refine (heldFR_any G2w13.out (by omega) (by omega) (by omega)).mono ?_
    rintro e w' ⟨rfl, rfl⟩
    -- once more
    go_wp2_with fail
    go_at_call 17
    refine (toDiscS_any A c l _ (Kd.C_below HA.out k13) lc hm).mono ?_
    rintro e w14 ⟨v14, rfl, hR14, hb14⟩
    obtain ⟨A14, c14, rfl, hc14, hC14⟩ := Kd.R_reads hR14
    have H14 := Lib.hid hC14
    have k14 := bstep k13 hb14
    clear hR14 hC14
    go_wp2_with fail
    go_at_call 28
    refine (HIm.out A14 c14 _ H14.out hm).mono ?_
    rintro e w15 ⟨t1, t2, rfl, f1, f2, _, hb15⟩
    have T1 := Lib.hid f1
    have T2 := Lib.hid f2
    clear f1 f2
    have k15 := bstep k14 hb15
    have b1315 := bstep hb14 hb15
    go_wp2_with fail
    go_at_call 29
    refine (eqFR_any T1.out (S1w13.out.below b1315) (by omega)).mono ?_
    rintro e w16 ⟨rfl, hb16⟩
    go_wp2_with fail
    go_at_call 29
    refine (eqFR_any (T2.out.below hb16) ((S2w13.out.below b1315).below hb16) (by omega)).mono ?_
    rintro e w17 ⟨rfl, hb17⟩
    have b1317 := bstep b1315 (bstep hb16 hb17)
    go_wp2_with fail
    go_at_call 32
    refine (heldFR_any (G1w13.out.below b1317) (by omega) (by decide) (by decide)).mono ?_
    rintro e w' ⟨rfl, rfl⟩
    go_wp2_with fail
    go_at_call 32
    refine (heldFR_any (G2w13.out.below b1317) (by omega) (by omega) (by omega)).mono ?_
    rintro e w' ⟨rfl, rfl⟩
    go_wp2
    go_ret
    exact ⟨by simp, bstep k15 (bstep hb16 hb17)⟩
  · have hn : l.length ≤ 9223372036854775807 := by omega
    go_enter Try.func7, Try.ntmps7
    go_wp2_with (go_at_call 15; refine (szDiscS_gt _ _ _ hm hn _).mono ?_; rintro e w' ⟨rfl, rfl⟩)
    go_ret
    exact ⟨rfl, Below.refl _ _⟩
end Go.Proofs.Ytiipnbccfbielaa
