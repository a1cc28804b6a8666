/- Boxes of wheels: the program's test; the laws' own functions on boxes. -/
import Derived.Test.YtidcnkjgbleoiaaBx
namespace Go.Proofs.Ytidcnkjgbleoiaa
open Go.RowKit Ieee
open Go.Proofs.YtidcnkjgbleoiaaW.PrintWords
set_option maxRecDepth 100000
attribute [local irreducible] wpRel
set_option maxHeartbeats 2000000 in
theorem validBox_impl (A : Option Addr) (c : Nat) (l : List Int) (w : World) (hA : Kd.C ki16 w A l.length l) (hm : l.length ≤ 2000000) :
    Calls Try.prog 21 #[.slice A l.length c] w fun e w' => e = .returned (.bool (boxOk l)) ∧ w = w' := by
  have HA : Hid (Kd.C ki16 w A l.length l) := Lib.hid hA
  clear hA
  obtain ⟨ok, hok⟩ : ∃ ok, boxOk l = ok := ⟨_, rfl⟩
  rw [hok]
  have HOK := Lib.hid hok
  clear hok
  go_enter Try.func21, Try.ntmps21
  go_wp2
  go_loop [3, 4, 7] (fun _ _ i => ∃ k : Nat, k ≤ l.length ∧ i = .int .i64 k ∧ Hid (bxTo l k = true)) (fun _ _ i => l.length - (intOf i).toNat)
  case atStart => exact ⟨0, Nat.zero_le _, rfl, Lib.hid rfl⟩
  case round =>
    obtain ⟨k, hk, rfl, HK⟩ := hrel
    by_cases hlt : k < l.length
    · obtain ⟨b, off, rfl, hbl, d0, g1, g2⟩ := at_ki HA.out k hlt
      have hx1 : (k : Int) < (l.length : Int) := by omega
      have hx2 : (0 : Int) ≤ (k : Int) := by omega
      cases ht : iin (l.getD k 0) 6 200
      · have hbad := boxOk_teeth hlt ht
        rw [HOK.out] at hbad
        subst hbad
        have HT := Lib.hid (fun w => by have := areTeeth_any (l.getD k 0) w; rw [ht] at this; exact this)
        clear ht
        obtain ⟨x, hx⟩ : ∃ x, l.getD k 0 = x := ⟨_, rfl⟩
        rw [hx] at d0 g1 g2 HT
        clear hx
        go_wp2_with (go_at_call 32; refine (HT.out _).mono ?_; rintro e w' ⟨rfl, rfl⟩)
        go_ret
        exact ⟨rfl, rfl⟩
      · have HT := Lib.hid (fun w => by have := areTeeth_any (l.getD k 0) w; rw [ht] at this; exact this)
        have HT1 := Lib.hid ht
        clear ht
        cases k with
        | zero =>
          have HK2 := Lib.hid (bxTo_succ HK.out HT1.out (.inl rfl))
          obtain ⟨x, hx⟩ : ∃ x, l.getD 0 0 = x := ⟨_, rfl⟩
          rw [hx] at d0 g1 g2 HT
          clear hx
          simp only [Nat.add_zero] at d0
          go_wp2_with (go_at_call 32; refine (HT.out _).mono ?_; rintro e w' ⟨rfl, rfl⟩)
          go_round
          case rel => exact ⟨1, hlt, by go_num, HK2⟩
          case measure => simp [intOf]; omega
        | succ j =>
          have d1 := at_ki1 HA.out j (by omega) b off rfl
          have HC := Lib.hid (fun h => bxTo_succ HK.out HT1.out (.inr h))
          have HD := Lib.hid (fun h => boxOk_order (l := l) (j := j) hlt h)
          rw [show j + 1 - 1 = j from rfl] at HC
          obtain ⟨y, hy⟩ : ∃ y, l.getD j 0 = y := ⟨_, rfl⟩
          rw [hy] at d1 HC HD
          clear hy
          obtain ⟨x, hx⟩ : ∃ x, l.getD (j + 1) 0 = x := ⟨_, rfl⟩
          rw [hx] at d0 g1 g2 HT HC HD
          clear hx
          have hj1 : (j : Int) < (l.length : Int) := by omega
          have hj2 : (j : Int) + 1 < (l.length : Int) := by omega
          have hj3 : (0 : Int) < (j : Int) + 1 := by omega
          by_cases hle : x ≤ y
          · have hbad := HD.out hle
            rw [HOK.out] at hbad
            subst hbad
            have hdl : decide (x ≤ y) = true := decide_eq_true hle
            go_wp2_with (go_at_call 32; refine (HT.out _).mono ?_; rintro e w' ⟨rfl, rfl⟩)
            go_ret
            exact ⟨rfl, rfl⟩
          · have HK2 := Lib.hid (HC.out (by omega))
            have hdl : decide (x ≤ y) = false := decide_eq_false hle
            clear hle
            go_wp2_with (go_at_call 32; refine (HT.out _).mono ?_; rintro e w' ⟨rfl, rfl⟩)
            go_round
            case rel => exact ⟨j + 1 + 1, hlt, by go_num, HK2⟩
            case measure => simp [intOf]; omega
    · obtain rfl : k = l.length := by omega
      have HE := Lib.hid (boxOk_end HK.out)
      rw [HOK.out] at HE
      have HI := Lib.hid (fun w => by have := within_any l.length 2 24 w; rw [← HE.out] at this; exact this)
      go_wp2_with (go_at_call 33; refine (HI.out _).mono ?_; rintro e w' ⟨rfl, rfl⟩)
      go_ret
      exact ⟨rfl, rfl⟩
set_option maxHeartbeats 2000000 in
theorem toI16_any (A : Option Addr) (c : Nat) (l : List Int) (w : World) (hr : Kd.C ki16 w A l.length l) (_hc : l.length ≤ c) (hm : l.length ≤ 1048576) :
    Calls Try.prog 7 #[.slice A l.length c] w fun e w' => ∃ v, e = .returned v ∧ Kd.R ki16 40 w' w.heap.size (fun _ => True) v l ∧ Below w.heap.size w w' := by
  have HC : Hid (Kd.C ki16 w A l.length l) := Lib.hid hr
  clear hr
  go_enter Try.func7, Try.ntmps7
  go_wp2_with (refine Kd.R_make ki16 _ 40 rfl (N := 7) rfl 22 _ _ rfl (l.length : Int) rfl rfl Try.underlying22 (.int .i16 0) 2 info_i16 rfl (by decide) (by omega) 0 (ok := fun _ => True) (okp := fun _ => True) (ki_mkM _ _ _ (by decide) (by decide)) (fun _ hk => hk) trivial (by omega) (by omega) (Below.refl _ _) (Nat.le_refl _) ?_; intro v1 w1 ho1 hb1 hg1 hnew1; clear hg1 hnew1; have HO1 := Lib.hid ho1; clear ho1)
  go_loopw [4] (fun i wr => ∃ k : Nat, ∃ ys : List Int, k ≤ l.length ∧ i = .int .i64 k ∧ Hid (Kd.R ki16 40 wr w.heap.size (fun _ => True) v1 ys) ∧ Hid (ys.length = l.length) ∧ Hid (∀ j, j < k → ys[j]? = l[j]?) ∧ Below w.heap.size w wr) (fun i _ => l.length - (intOf i).toNat)
  case atStart => exact ⟨0, _, Nat.zero_le _, rfl, HO1, Lib.hid (by simp), Lib.hid (fun j hj => absurd hj (by omega)), hb1⟩
  case round =>
    obtain ⟨k, ys, hk, rfl, HR, HL, HE, hB⟩ := hrel
    clear HO1 hb1
    by_cases hlt : k < l.length
    · obtain ⟨b, off, rfl, hbl, c0, g1, g2⟩ := at_ki HC.out k hlt
      have d0 := (bc hB b (off + k) hbl).trans c0
      clear c0
      have hpos : 0 < ys.length := by have := HL.out; omega
      obtain ⟨g, cap, rfl, hge, hglt, _⟩ := Kd.R_form HR.out hpos
      have HX := Lib.hid (show (k : Int) < ys.length by have := HL.out; omega)
      have hyl : k < ys.length := by have := HL.out; omega
      obtain ⟨ce, hcl, hM, hcc, hfr⟩ := Kd.R_elem HR.out 0 (k : Int) (by omega) HX.out
      obtain ⟨rfl, _, _⟩ := ki_openM hM
      have x0 : wr.cell? ⟨g, k, none⟩ = some (.int .i16 (ys.getD (k : Int).toNat 0)) := by have := hcc 0 _ rfl; rwa [show (k : Int).toNat * ki16.sz + 0 = k from by show k * 1 + 0 = k; omega] at this
      have f0 : wr.frozen? ⟨g, k, none⟩ = false := by have := hfr 0; rwa [show (k : Int).toNat * ki16.sz + 0 = k from by show k * 1 + 0 = k; omega] at this
      have HL0 := Lib.hid (show l.getD k 0 = l[k] by rw [List.getD_eq_getElem?_getD, List.getElem?_eq_getElem hlt]; rfl)
      obtain ⟨x, hx⟩ : ∃ x, l.getD k 0 = x := ⟨_, rfl⟩
      rw [hx] at d0 g1 g2 HL0
      clear hx
      have HS0 := (Kd.R_seg HR.out (k : Int) (by omega) HX.out (seg := [.int .i16 x]) (j := 0) hcl hcc (show 1 ≤ 1 from Nat.le_refl 1) (x' := x) (ki_mkM wr _ (fun q => True ∧ q ≠ g) g1 g2) (fun _ h => h)).1
      have e1 : wr.setCells g ((k : Int).toNat * ki16.sz + 0) [.int .i16 x] = wr.setCell ⟨g, k, none⟩ (.int .i16 x) := by show wr.setCell ⟨g, k * 1 + 0, none⟩ _ = _; rw [show k * 1 + 0 = k from by omega]
      rw [e1] at HS0
      have HS := Lib.hid HS0
      clear hcl hM hcc hfr HS0 e1
      go_wp2
      go_roundw
      case rel =>
        refine ⟨k + 1, ys.set k x, by omega, by go_num, HS, Lib.hid (by rw [List.length_set]; exact HL.out), Lib.hid (fun j hj => ?_), hB.setCell hge _⟩
        rw [List.getElem?_set]
        by_cases hji : k = j
        · subst hji
          rw [if_pos rfl, if_pos hyl, HL0.out, List.getElem?_eq_getElem hlt]
        · rw [if_neg hji]; exact HE.out j (by omega)
      case measure => simp [intOf]; omega
    · go_wp2
      go_ret
      refine ⟨_, rfl, ?_, hB⟩
      have e : ys = l := List.ext_getElem? fun j => by
        by_cases hj : j < k
        · exact HE.out j hj
        · rw [List.getElem?_eq_none (by have := HL.out; omega), List.getElem?_eq_none (by omega)]
      rw [← e]; exact HR.out
set_option maxHeartbeats 2000000 in
theorem eqI16_any (A B : Option Addr) (c c' : Nat) (l : List Int) (w : World) (hA : Kd.C ki16 w A l.length l) (hB : Kd.C ki16 w B l.length l) (hm : l.length ≤ 1048576) :
    Calls Try.prog 10 #[.slice A l.length c, .slice B l.length c'] w fun e w' => e = .returned (.bool true) ∧ Below w.heap.size w w' := by
  have HA : Hid (Kd.C ki16 w A l.length l) := Lib.hid hA
  have HB : Hid (Kd.C ki16 w B l.length l) := Lib.hid hB
  clear hA hB
  go_enter Try.func10, Try.ntmps10
  go_wp2
  go_loopw [5] (fun i wr => ∃ k : Nat, k ≤ l.length ∧ i = .int .i64 k ∧ Below w.heap.size w wr) (fun i _ => l.length - (intOf i).toNat)
  case atStart => exact ⟨0, Nat.zero_le _, rfl, Below.refl _ _⟩
  case round =>
    obtain ⟨k, hk, rfl, hb⟩ := hrel
    by_cases hlt : k < l.length
    · obtain ⟨b, off, rfl, hbl, c0, _, _⟩ := at_ki HA.out k hlt
      obtain ⟨b', off', rfl, hbl', c0', _, _⟩ := at_ki HB.out k hlt
      have d0 := (bc hb b (off + k) hbl).trans c0
      have d0' := (bc hb b' (off' + k) hbl').trans c0'
      have l0 : b < wr.heap.size := Nat.lt_of_lt_of_le hbl hb.size
      have l1 : b' < wr.heap.size := Nat.lt_of_lt_of_le hbl' hb.size
      clear c0 c0'
      obtain ⟨x, hx⟩ : ∃ x, l.getD k 0 = x := ⟨_, rfl⟩
      rw [hx] at *
      clear hx
      obtain ⟨wo, hwo⟩ : ∃ wo : World, wo = wr := ⟨_, rfl⟩
      subst hwo
      go_wp2
      first | refine region_drewN (DIs (.bool true)) (by kernel_rfl) (by kernel_rfl) ?_ | refine region_drew (DIs (.bool true)) (by kernel_rfl) (by kernel_rfl) ?_
      repeat (first | (refine wpRel_plain rfl (fun K hK => ?_); intro w' hw'; obtain ⟨n', rfl⟩ := hw'; go_simp; refine ⟨Drew.mk _ _, hK _ ?_⟩; clear hK K n'))
      (refine wpRel_nil ?_; intro w' hw'; obtain ⟨nq, rfl⟩ := hw')
      go_wp2
      go_roundw
      case rel => exact ⟨k + 1, by omega, by go_num, bdrewN hb _⟩
      case measure => simp [intOf]; omega
    · go_wp2
      go_ret
      exact ⟨by simp, hb⟩
end Go.Proofs.Ytidcnkjgbleoiaa
