/- All factors of a box: both sides. -/
import Derived.Test.YtidcnkjgbleoiaaFac
import Derived.Test.YtidcnkjgbleoiaaBx2
namespace Go.Proofs.Ytidcnkjgbleoiaa
open Go.RowKit Ieee
open Go.Proofs.YtidcnkjgbleoiaaW.PrintWords
set_option maxRecDepth 100000
attribute [local irreducible] wpRel
theorem qs_nn {l : List Int} (h : allW l) : allNn (qs l) := qsTo_nn h l.length (Nat.le_refl _)
theorem qs_len {l : List Int} (hm : l.length ≤ 24) : (qs l).length ≤ 576 := by
  have h := qsTo_len l l.length
  have h2 : l.length * l.length ≤ 24 * 24 := Nat.mul_le_mul hm hm
  unfold qs; omega
theorem qs_pos {l : List Int} (h2 : 2 ≤ l.length) : 0 < (qs l).length := by
  have hrow : ∀ k, 2 ≤ k → 0 < (qsRow l 0 k).length := by
    intro k hk
    induction k with
    | zero => omega
    | succ k ih =>
      unfold qsRow
      split
      · omega
      · simp
  have h0 : ∀ a, 1 ≤ a → 0 < (qsTo l a).length := by
    intro a ha
    induction a with
    | zero => omega
    | succ a ih =>
      rw [qsTo, List.length_append]
      by_cases e : a = 0
      · subst e
        have := hrow l.length h2
        omega
      · have := ih (by omega)
        omega
  exact h0 l.length (by omega)
theorem allF_nn {l : List Int} (h : allW l) : allNn (allF l) := insA_nn (qs_nn h) (fun x hx => by cases hx)
theorem allF_len {l : List Int} (hm : l.length ≤ 24) : (allF l).length ≤ 576 := by
  have h := insA_len (qs l) []
  have := qs_len hm
  unfold allF
  simp at h; omega
set_option maxHeartbeats 2000000 in
theorem factors_any (A : Option Addr) (c : Nat) (l : List Int) (w : World) (hA : Kd.C ki16 w A l.length l) (h2 : 2 ≤ l.length) (hm : l.length ≤ 24) (hw : allW l) :
    Calls Try.prog 22 #[.slice A l.length c] w fun e w' => ∃ v, e = .returned v ∧ RW kf 32 w' w.heap.size v (allF l) ∧ Below w.heap.size w w' := by
  have HP := Lib.hid (fun pb W h1 h2 h3 => pairsF_any A c l w hA hm hw pb h1 W h2 h3)
  have HN := Lib.hid (qs_nn hw)
  have HL := Lib.hid (qs_len hm)
  have HQ := Lib.hid (qs_pos h2)
  have HE := Lib.hid (srtL_cpt HN.out)
  have HS := Lib.hid (srtL_nn HN.out)
  have HSL := Lib.hid (srtL_len HN.out)
  have HR0 := Lib.hid (RW.empty (w := w.alloc (.cells #[] 32)) kf 32 w.heap.size w.heap.size (heap_alloc_new w _) (Nat.le_refl _))
  have hz : w.heap.size ≤ (w.alloc (.cells #[] 32)).heap.size := by simp
  have HZ := Lib.hid hz
  clear hA hw hz
  obtain ⟨q, hq⟩ : ∃ q, qs l = q := ⟨_, rfl⟩
  rw [hq] at HP HN HL HQ HE HS HSL
  have HA2 := Lib.hid (show allF l = insA q [] by unfold allF; rw [hq])
  clear hq
  go_enter Try.func22, Try.ntmps22
  go_wp2_with fail
  go_at_call 34
  refine (HP.out (w.heap.size + 1) _ (by omega) (balloc (balloc (Below.refl _ _) _) _) ⟨_, by have := heap_alloc_new (w.alloc (.cells #[] 32)) (.cells #[.slice (some ⟨w.heap.size, 0, none⟩) 0 0] 23); simpa using this, HR0.out.alloc _⟩).mono ?_
  rintro e w2 ⟨rfl, ⟨v, h1, h2⟩, hb2⟩
  have c2 := cell_of_one h1
  have l2 := lt_of_block h1
  have H1 := Lib.hid h1
  have HV := Lib.hid h2
  have HNE := Lib.hid (Cel.ne h1 h2)
  have hbs2 := hb2.size
  clear h1 h2
  go_wp2_with fail
  go_at_call 36
  refine (sort_any HV.out HN.out HQ.out (by have := HL.out; omega)).mono ?_
  rintro e w3 ⟨rfl, h3, hg3⟩
  have hp3 := (hg3.block (w.heap.size + 1) l2 (fun e => HNE.out _ e.symm rfl)).trans H1.out
  have c3 := cell_of_one hp3
  have l3 := lt_of_block hp3
  have H3 := Lib.hid h3
  have hb3 : Below w.heap.size w w3 := hb2.grown hg3 hbs2 (fun k hk => HV.out.base_le k hk)
  have HG3 := Lib.hid hb3.size
  clear h3 hg3 hp3 c2 l2
  go_wp2_with fail
  go_at_call 37
  refine (compact_any H3.out HS.out (by have := HQ.out; have := HSL.out; omega) (by have := HL.out; have := HSL.out; omega)).mono ?_
  rintro e w4 ⟨v4, rfl, h4, _, hg4⟩
  have H4 := Lib.hid h4
  have hb4 : Below w.heap.size w w4 := hb3.grown hg4 HG3.out (fun k hk => HV.out.base_le k hk)
  clear h4 hg4
  go_wp2
  go_ret
  exact ⟨_, rfl, by rw [HA2.out, ← HE.out]; exact H4.out, hb4⟩
/-- What all factors of a box come to. -/
def AfQ (l : List Int) (w : World) (e : Ending) (w' : World) : Prop :=
  (∃ v, e = .returned (.tuple #[v, .int .i64 (if boxOk l then 0 else 1)]) ∧ RW kf 32 w' w.heap.size v (if boxOk l then allF l else [])) ∧ Below w.heap.size w w'
theorem allFactors_spec (A : Option Addr) (c : Nat) (l : List Int) (w : World) (hA : Kd.C ki16 w A l.length l) (hm : l.length ≤ 1048576) :
    Calls Try.prog 6 #[.slice A l.length c] w (AfQ l w) := by
  unfold AfQ
  cases hk : boxOk l
  · have HO := Lib.hid (show Calls Try.prog 19 #[.slice A l.length c] w fun e w' => e = .returned (.bool false) ∧ Below w.heap.size w w' by have := l05Ok_any A c l w hA (by omega); rw [hk] at this; exact this)
    have HR := Lib.hid (fun W (h : Below w.heap.size w W) => RW.empty (w := W.alloc (.cells #[] 32)) kf 32 w.heap.size W.heap.size (heap_alloc_new W _) h.size)
    clear hA hk
    go_enter Try.func6, Try.ntmps6
    go_wp2_with (go_at_call 19; refine (HO.out).mono ?_; rintro e w1 ⟨rfl, hb1⟩)
    go_ret2
    exact ⟨⟨_, rfl, HR.out _ hb1⟩, balloc hb1 _⟩
  · obtain ⟨hw, h2, h24⟩ := allW_of hk
    have HO := Lib.hid (show Calls Try.prog 19 #[.slice A l.length c] w fun e w' => e = .returned (.bool true) ∧ Below w.heap.size w w' by have := l05Ok_any A c l w hA (by omega); rw [hk] at this; exact this)
    have HF := Lib.hid (fun w1 (h : Below w.heap.size w w1) => l05All_any A c l w1 (Kd.C_below hA h) h24 hw)
    clear hA hk hw
    go_enter Try.func6, Try.ntmps6
    go_wp2_with fail
    go_at_call 19
    refine (HO.out).mono ?_
    rintro e w1 ⟨rfl, hb1⟩
    have hbs1 := hb1.size
    go_wp2_with (go_at_call 20; refine (HF.out _ hb1).mono ?_; rintro e w2 ⟨v, rfl, hr, hb2⟩; (have HR := Lib.hid hr); clear hr)
    go_ret2
    exact ⟨⟨_, rfl, HR.out.lower hbs1⟩, bstep hb1 hb2⟩
theorem allFactors_impl (A : Option Addr) (c : Nat) (l : List Int) (w : World) (hA : Kd.C ki16 w A l.length l) (hm : l.length ≤ 1048576) :
    Calls Try.prog 8 #[.slice A l.length c] w (AfQ l w) := by
  unfold AfQ
  cases hk : boxOk l
  · have HO := Lib.hid (show Calls Try.prog 21 #[.slice A l.length c] w fun e w' => e = .returned (.bool false) ∧ w = w' by have := validBox_impl A c l w hA (by omega); rw [hk] at this; exact this)
    clear hA hk
    go_enter Try.func8, Try.ntmps8
    go_wp2_with (go_at_call 21; refine (HO.out).mono ?_; rintro e w1 ⟨rfl, rfl⟩)
    go_ret2
    exact ⟨⟨_, rfl, RW.nil _ _ _ _⟩, Below.refl _ _⟩
  · obtain ⟨hw, h2, h24⟩ := allW_of hk
    have HO := Lib.hid (show Calls Try.prog 21 #[.slice A l.length c] w fun e w' => e = .returned (.bool true) ∧ w = w' by have := validBox_impl A c l w hA (by omega); rw [hk] at this; exact this)
    have HF := Lib.hid (factors_any A c l w hA h2 h24 hw)
    clear hA hk hw
    go_enter Try.func8, Try.ntmps8
    go_wp2_with (first | (go_at_call 21; refine (HO.out).mono ?_; rintro e w1 ⟨rfl, rfl⟩) | (go_at_call 22; refine (HF.out).mono ?_; rintro e w2 ⟨v, rfl, hr, hb2⟩; (have HR := Lib.hid hr); clear hr))
    go_ret2
    exact ⟨⟨_, rfl, HR.out⟩, hb2⟩
end Go.Proofs.Ytidcnkjgbleoiaa
