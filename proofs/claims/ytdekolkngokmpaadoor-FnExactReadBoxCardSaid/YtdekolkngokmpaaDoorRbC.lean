/- Boxes read from their texts: the law's walk. -/
import Derived.Test.YtdekolkngokmpaaDoorRbB
namespace Go.Proofs.YtdekolkngokmpaaDoor
open Go.RowKit Ieee
open Go.Proofs.YtdekolkngokmpaaDoorW.PrintWords
set_option maxRecDepth 100000
attribute [local irreducible] wpRel
theorem eqRI_any {b1 b2 : Nat} {u v : Value} {l : List Int} {w : World} (hu : RW ki16 31 w b1 u l) (hv : RW ki16 31 w b2 v l) (hm : l.length ≤ 1000) :
    Calls Tryd.prog 8 #[u, v] w fun e w' => e = .returned (.bool true) ∧ Below w.heap.size w w' := by
  obtain ⟨A, c, rfl, _, hA⟩ := RW.reads hu
  obtain ⟨B, c', rfl, _, hB⟩ := RW.reads hv
  exact eqI16_any A B c c' l w hA hB (by omega)
theorem heldRI_any {b1 : Nat} {u : Value} {n : Nat} {m : Int} {w : World} (hu : RW ki16 31 w b1 u (mkI m n)) (hm : n ≤ 1000) (h0 : 0 ≤ m) (h1 : m ≤ 1000) :
    Calls Tryd.prog 12 #[u, .int .i64 m] w fun e w' => e = .returned (.int .i64 (m + n)) ∧ Below w.heap.size w w' := by
  obtain ⟨A, c, rfl, _, hA⟩ := RW.reads hu
  rw [mkI_length] at hA ⊢
  exact heldI16_any A c n m w hA hm h0 h1
theorem rbV_len (l : List UInt8) : (rbV l).length ≤ 24 := by
  unfold rbV
  cases h : rbOk l
  · simp
  · rw [if_pos rfl]
    unfold rbOk at h
    rw [Bool.and_eq_true] at h
    exact (allT_of h.2).2.2
set_option maxHeartbeats 4000000 in
theorem law_readBox (s : ByteArray) (_ : s.size ≤ 9223372036854775807) (m : Int) (w : World) (hm : w.cell? ⟨1, 0, none⟩ = some (.int .i64 m)) (hT : Lib.TabIs Tryd.prog w "internal/strconv.uint64pow10" .u64 Lib.pow10Tab) (hE : ErrsW w) :
    Calls Tryd.prog 4 #[.string s] w fun e w' => e = .returned (.bool true) ∧ Below w.heap.size w w' := by
  by_cases hs : s.size ≤ 1048576
  · have hm0 : 1 < w.heap.size := Lib.lt_of_cell hm
    have HSp := Lib.hid (fun w => readBox_spec s hs w)
    have HIm := Lib.hid (fun W (hB : Below w.heap.size w W) => readBox_impl s hs m W ((bc hB 1 0 hm0).trans hm) (hE.below hB) (tab_below hT hB))
    have hl := rbV_len s.data.toList
    unfold RbQ at HSp HIm
    obtain ⟨rv, hrv⟩ : ∃ x, rbV s.data.toList = x := ⟨_, rfl⟩
    obtain ⟨rc, hrc⟩ : ∃ x, rbC s.data.toList = x := ⟨_, rfl⟩
    rw [hrv, hrc] at HSp HIm
    rw [hrv] at hl
    clear hrv hrc hm hE hT hm0
    go_enter Tryd.func4, Tryd.ntmps4
    go_wp2_with fail
    go_at_call 9
    refine (HSp.out w).mono ?_
    rintro e w1 ⟨⟨v1, rfl, h1⟩, hb1⟩
    have H1 := Lib.hid h1
    clear h1
    go_wp2_with fail
    go_at_call 10
    refine (HIm.out _ hb1).mono ?_
    rintro e w2 ⟨⟨v2, rfl, h2⟩, hb2⟩
    have H2 := Lib.hid h2
    have S2 := Lib.hid (H1.out.below hb2)
    have k2 := bstep hb1 hb2
    clear h2
    go_wp2_with (go_at_call 8; refine (eqRI_any H2.out S2.out (by omega)).mono ?_; rintro e w3 ⟨rfl, hb3⟩)
    have k3 := bstep k2 hb3
    have H3 := Lib.hid (H2.out.below hb3)
    have S3 := Lib.hid (S2.out.below hb3)
    have lts : Hid (∀ k, v1.ownBlock = some k → k < w1.heap.size) := Lib.hid H1.out.lt
    have bsg : Hid (∀ k, v2.ownBlock = some k → w1.heap.size ≤ k) := Lib.hid H2.out.base_le
    go_at_call 11
    refine (markI16_any v2 rv 1 _ _ H3.out (by omega) (by decide) (by decide)).mono ?_
    rintro e w4 ⟨rfl, h4, hg4⟩
    have H4 := Lib.hid (RW.mk h4)
    have S4 := Lib.hid (S3.out.grown rfl hg4 (fun k hk he => by have h1 := lts.out k hk; have h2 := bsg.out k he.symm; omega))
    have k4 : Below w.heap.size w w4 := k3.grown hg4 k3.size (fun k hk => Nat.le_trans hb1.size (bsg.out k hk))
    clear h4
    go_wp2_with (go_at_call 12; refine (heldRI_any H4.out (by omega) (by decide) (by decide)).mono ?_; rintro e w5 ⟨rfl, hb5⟩)
    have k5 := bstep k4 hb5
    have H5 := Lib.hid (H4.out.below hb5)
    have S5 := Lib.hid (S4.out.below hb5)
    go_at_call 10
    refine (HIm.out _ k5).mono ?_
    rintro e w6 ⟨⟨v6, rfl, h6⟩, hb6⟩
    have H6 := Lib.hid h6
    have S6 := Lib.hid (S5.out.below hb6)
    have G6 := Lib.hid (H5.out.below hb6)
    have k6 := bstep k5 hb6
    clear h6
    go_wp2_with (go_at_call 8; refine (eqRI_any H6.out S6.out (by omega)).mono ?_; rintro e w7 ⟨rfl, hb7⟩)
    have k7 := bstep k6 hb7
    have G7 := Lib.hid (G6.out.below hb7)
    go_at_call 12
    refine (heldRI_any G7.out (by omega) (by decide) (by decide)).mono ?_
    rintro e w8 ⟨rfl, hb8⟩
    go_wp2
    go_ret
    exact ⟨rfl, bstep k7 hb8⟩
  · have hm' : (1048576 : Int) < s.size := by omega
    go_enter Tryd.func4, Tryd.ntmps4
    go_wp2
    go_ret
    exact ⟨rfl, Below.refl _ _⟩
end Go.Proofs.YtdekolkngokmpaaDoor
