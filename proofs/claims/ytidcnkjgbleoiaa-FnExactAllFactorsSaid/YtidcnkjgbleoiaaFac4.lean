/- The law FnExactAllFactors: the walk. -/
import Derived.Test.YtidcnkjgbleoiaaFac3
namespace Go.Proofs.Ytidcnkjgbleoiaa
open Go.RowKit Ieee
open Go.Proofs.YtidcnkjgbleoiaaW.PrintWords
set_option maxRecDepth 100000
attribute [local irreducible] wpRel
theorem af_len (l : List Int) : (if boxOk l then allF l else []).length ≤ 576 := by
  cases hk : boxOk l
  · simp
  · rw [if_pos rfl]
    exact allF_len (allW_of hk).2.2
set_option maxHeartbeats 8000000 in
theorem law_allFactors (A : Option Addr) (c : Nat) (l : List Int) (hc : l.length ≤ c) (_hm : c ≤ maxLen) (_hn : A = none → l.length = 0 ∧ c = 0) (w : World) (hA : Kd.C ki16 w A l.length l) :
    Calls Try.prog 3 #[.slice A l.length c] w fun e w' => e = .returned (.bool true) ∧ Below w.heap.size w w' := by
  by_cases hm : l.length ≤ 1048576
  · have HA := Lib.hid hA
    have HSp := Lib.hid (fun A c w h => allFactors_spec A c l w h hm)
    have HIm := Lib.hid (fun A c w h => allFactors_impl A c l w h hm)
    clear hA
    obtain ⟨xs, hxs⟩ : ∃ xs, (if boxOk l then allF l else []) = xs := ⟨_, rfl⟩
    obtain ⟨cd, hcd⟩ : ∃ cd : Int, (if boxOk l then 0 else 1) = cd := ⟨_, rfl⟩
    have hlen : xs.length ≤ 576 := by rw [← hxs]; exact af_len l
    unfold AfQ at HSp HIm
    rw [hxs, hcd] at HSp HIm
    clear hxs hcd
    go_enter Try.func3, Try.ntmps3
    go_wp2_with fail
    go_at_call 7
    refine (toI_any A c l w HA.out hc hm).mono ?_
    rintro e w1 ⟨A1, c1, rfl, _, h1, _, hb1⟩
    have H1 := Lib.hid h1
    clear h1
    go_wp2_with fail
    go_at_call 6
    refine (HSp.out A1 c1 w1 H1.out).mono ?_
    rintro e w2 ⟨⟨s, rfl, hs⟩, hb2⟩
    have S2 := Lib.hid hs
    have k2 := bstep hb1 hb2
    clear hs H1
    go_wp2_with fail
    go_at_call 7
    refine (toI_any A c l w2 (Kd.C_below HA.out k2) hc hm).mono ?_
    rintro e w3 ⟨A3, c3, rfl, hr3, h3, hc3, hb3⟩
    have X3 := Lib.hid hr3
    have H3 := Lib.hid h3
    have S3 := Lib.hid (S2.out.below hb3)
    have k3 := bstep k2 hb3
    clear hr3 h3
    go_wp2_with fail
    go_at_call 8
    refine (HIm.out A3 c3 w3 H3.out).mono ?_
    rintro e w4 ⟨⟨g, rfl, hg⟩, hb4⟩
    have G4 := Lib.hid hg
    have S4 := Lib.hid (S3.out.below hb4)
    have X4 := Lib.hid (X3.out.below hb4)
    have H4 := Lib.hid (Kd.C_below H3.out hb4)
    have k4 := bstep k3 hb4
    have LS := Lib.hid (show ∀ k, s.ownBlock = some k → k < w2.heap.size from S2.out.lt)
    have LX := Lib.hid (show ∀ k, (Value.slice A3 l.length c3).ownBlock = some k → k < w3.heap.size from X3.out.lt)
    have BX := Lib.hid (show ∀ k, (Value.slice A3 l.length c3).ownBlock = some k → w2.heap.size ≤ k from X3.out.base_le)
    have BG := Lib.hid (show ∀ k, g.ownBlock = some k → w3.heap.size ≤ k from G4.out.base_le)
    have hs23 : w2.heap.size ≤ w3.heap.size := hb3.size
    have hs02 : w.heap.size ≤ w2.heap.size := k2.size
    clear hg X3 H3 S3
    go_wp2_with (go_at_call 9; refine (eqFw G4.out S4.out (by omega)).mono ?_; rintro e w5 ⟨rfl, hb5⟩)
    have k5 := bstep k4 hb5
    go_at_call 7
    refine (toI_any A c l w5 (Kd.C_below HA.out k5) hc hm).mono ?_
    rintro e w6 ⟨A6, c6, rfl, _, h6, _, hb6⟩
    have H6 := Lib.hid h6
    have k6 := bstep k5 hb6
    have b46 := bstep hb5 hb6
    have H46 := Lib.hid (Kd.C_below H4.out b46)
    clear h6
    go_wp2_with (go_at_call 10; refine (eqI16_any A3 A6 c3 c6 l w6 H46.out H6.out hm).mono ?_; rintro e w7 ⟨rfl, hb7⟩)
    have k7 := bstep k6 hb7
    have b47 := bstep b46 hb7
    have X7 := Lib.hid (X4.out.below b47)
    have G7 := Lib.hid (G4.out.below b47)
    have S7 := Lib.hid (S4.out.below b47)
    clear X4 G4 S4 H46 H6 H4
    go_at_call 11
    refine (markI_any _ l 1 _ _ X7.out hm (by decide) (by decide)).mono ?_
    rintro e w8 ⟨rfl, hg8⟩
    have G8 := Lib.hid (G7.out.grown rfl hg8 (fun k hk he => by have h1 := BG.out k hk; have h2 := LX.out k he.symm; omega))
    have S8 := Lib.hid (S7.out.grown rfl hg8 (fun k hk he => by have h1 := LS.out k hk; have h2 := BX.out k he.symm; omega))
    have k8 : Below w.heap.size w w8 := k7.grown hg8 k7.size (fun k hk => Nat.le_trans hs02 (BX.out k hk))
    clear hg8 G7 S7 X7
    go_wp2_with (go_at_call 9; refine (eqFw G8.out S8.out (by omega)).mono ?_; rintro e w9 ⟨rfl, hb9⟩)
    have G9 := Lib.hid (G8.out.below hb9)
    have S9 := Lib.hid (S8.out.below hb9)
    have k9 := bstep k8 hb9
    clear G8 S8
    go_at_call 12
    refine (markF_any g xs 1 _ _ G9.out (by omega) (by decide) (by decide)).mono ?_
    rintro e w10 ⟨rfl, hm10, hg10⟩
    have G10 := Lib.hid (RW.mk hm10)
    have S10 := Lib.hid (S9.out.grown rfl hg10 (fun k hk he => by have h1 := LS.out k hk; have h2 := BG.out k he.symm; omega))
    have k10 : Below w.heap.size w w10 := k9.grown hg10 k9.size (fun k hk => by have := BG.out k hk; omega)
    clear hm10 hg10 G9 S9
    go_wp2_with (go_at_call 13; refine (heldFw G10.out (by omega) (by decide) (by decide)).mono ?_; rintro e w' ⟨rfl, rfl⟩)
    go_at_call 7
    refine (toI_any A c l w10 (Kd.C_below HA.out k10) hc hm).mono ?_
    rintro e w11 ⟨A11, c11, rfl, _, h11, _, hb11⟩
    have H11 := Lib.hid h11
    have k11 := bstep k10 hb11
    clear h11
    go_wp2_with fail
    go_at_call 8
    refine (HIm.out A11 c11 w11 H11.out).mono ?_
    rintro e w12 ⟨⟨t, rfl, ht⟩, hb12⟩
    have T12 := Lib.hid ht
    have b1012 := bstep hb11 hb12
    have S12 := Lib.hid (S10.out.below b1012)
    have G12 := Lib.hid (G10.out.below b1012)
    have k12 := bstep k11 hb12
    clear ht
    go_wp2_with (go_at_call 9; refine (eqFw T12.out S12.out (by omega)).mono ?_; rintro e w13 ⟨rfl, hb13⟩)
    have G13 := Lib.hid (G12.out.below hb13)
    go_at_call 13
    refine (heldFw G13.out (by omega) (by decide) (by decide)).mono ?_
    rintro e w' ⟨rfl, rfl⟩
    go_wp2
    go_ret
    exact ⟨rfl, bstep k12 hb13⟩
  · have hm' : (1048576 : Int) < (l.length : Int) := by omega
    go_enter Try.func3, Try.ntmps3
    go_wp2
    go_ret
    exact ⟨rfl, Below.refl _ _⟩
end Go.Proofs.Ytidcnkjgbleoiaa
