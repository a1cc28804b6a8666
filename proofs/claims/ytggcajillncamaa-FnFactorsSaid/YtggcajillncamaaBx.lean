/- Boxes of wheels: rows of whole numbers of sixteen bits; when a box is valid: both sides. Boxes of wheels: the program's test; the laws' own functions on boxes. -/
import Derived.Test.YtggcajillncamaaTrain
import Derived.Test.YtggcajillncamaaRow
import Derived.IntWalk
namespace Go.Proofs.Ytggcajillncamaa
open Go.RowKit Ieee
open Go.Proofs.YtggcajillncamaaW.PrintWords
set_option maxRecDepth 100000
attribute [local irreducible] wpRel
theorem info_i16 : (Try.prog.info? 40).map (fun i => (i.zero, i.size, i.bytes)) = some (some (.int .i16 0), 1, 2) := by kernel_rfl
theorem ki_openM {w : World} {base : Nat} {ok : Nat → Prop} {x : Int} {cs : List Value} (h : ki16.M w base ok x cs) : cs = [.int .i16 x] ∧ -32768 ≤ x ∧ x ≤ 32767 := h
theorem ki_mkM (w : World) (base : Nat) (ok : Nat → Prop) {x : Int} (h1 : -32768 ≤ x) (h2 : x ≤ 32767) : ki16.M w base ok x [.int .i16 x] := ⟨rfl, h1, h2⟩
theorem at_ki {w : World} {A : Option Addr} {n : Nat} {l : List Int} (h : Kd.C ki16 w A n l) (i : Nat) (hi : i < n) :
    ∃ b off, A = some ⟨b, off, none⟩ ∧ b < w.heap.size ∧ w.cell? ⟨b, off + i, none⟩ = some (.int .i16 (l.getD i 0)) ∧ -32768 ≤ l.getD i 0 ∧ l.getD i 0 ≤ 32767 := by
  obtain ⟨b, off, c, e, hb, _, hK, hc⟩ := C_at h (show 0 < ki16.sz by decide) 0 i hi
  obtain ⟨rfl, h1, h2⟩ := hK
  have := hc 0 _ rfl
  exact ⟨b, off, e, hb, by rw [show off + i = off + i * ki16.sz + 0 from by show _ = off + i * 1 + 0; omega]; exact this, h1, h2⟩
theorem at_ki1 {w : World} {a : Addr} {n : Nat} {l : List Int} (h : Kd.C ki16 w (some a) n l) (i : Nat) (hi : i < n) (b off : Nat) (ha : a = ⟨b, off, none⟩) :
    w.cell? ⟨b, off + i, none⟩ = some (.int .i16 (l.getD i 0)) := by
  obtain ⟨b', off', e, _, c, _⟩ := at_ki h i hi
  subst ha
  injection e with e
  injection e with e1 e2
  subst e1 e2
  exact c
/-- The first k wheels are wheels, each greater than the one before. -/
def bxTo (l : List Int) : Nat → Bool
  | 0 => true
  | k + 1 => bxTo l k && (iin (l.getD k 0) 6 200 && (k == 0 || decide (l.getD (k - 1) 0 < l.getD k 0)))
/-- A box is valid. -/
def boxOk (l : List Int) : Bool := bxTo l l.length && iin l.length 2 24
theorem bxTo_mono (l : List Int) : ∀ {k n : Nat}, k ≤ n → bxTo l k = false → bxTo l n = false
  | k, n, hk, h => by
    induction n with
    | zero => obtain rfl : k = 0 := by omega
              exact h
    | succ n ih =>
      by_cases e : k = n + 1
      · subst e; exact h
      · rw [bxTo, ih (by omega)]; rfl
theorem bxTo_succ {l : List Int} {k : Nat} (h : bxTo l k = true) (h1 : iin (l.getD k 0) 6 200 = true) (h2 : k = 0 ∨ l.getD (k - 1) 0 < l.getD k 0) : bxTo l (k + 1) = true := by
  rw [bxTo, h, h1]
  rcases h2 with rfl | h2
  · rfl
  · simp only [Bool.true_and, decide_eq_true h2, Bool.or_true]
theorem boxOk_teeth {l : List Int} {k : Nat} (hk : k < l.length) (h1 : iin (l.getD k 0) 6 200 = false) : boxOk l = false := by
  unfold boxOk
  rw [bxTo_mono l (show k + 1 ≤ l.length from hk) (by rw [bxTo, h1]; simp)]
  rfl
theorem boxOk_order {l : List Int} {j : Nat} (hk : j + 1 < l.length) (h1 : l.getD (j + 1) 0 ≤ l.getD j 0) : boxOk l = false := by
  unfold boxOk
  rw [bxTo_mono l (show j + 1 + 1 ≤ l.length from hk) (by rw [bxTo, show j + 1 - 1 = j from rfl, decide_eq_false (show ¬ l.getD j 0 < l.getD (j + 1) 0 by omega)]; simp)]
  rfl
theorem boxOk_end {l : List Int} (h : bxTo l l.length = true) : boxOk l = iin l.length 2 24 := by
  unfold boxOk
  rw [h]; rfl
set_option maxHeartbeats 2000000 in
theorem l05Ok_any (A : Option Addr) (c : Nat) (l : List Int) (w : World) (hA : Kd.C ki16 w A l.length l) (hm : l.length ≤ 2000000) :
    Calls Try.prog 24 #[.slice A l.length c] w fun e w' => e = .returned (.bool (boxOk l)) ∧ Below w.heap.size w w' := by
  have HA : Hid (Kd.C ki16 w A l.length l) := Lib.hid hA
  clear hA
  obtain ⟨ok, hok⟩ : ∃ ok, boxOk l = ok := ⟨_, rfl⟩
  rw [hok]
  have HOK := Lib.hid hok
  clear hok
  go_enter Try.func24, Try.ntmps24
  go_wp2
  go_loopw [3] (fun i wr => ∃ k : Nat, k ≤ l.length ∧ i = .int .i64 k ∧ Hid (bxTo l k = true) ∧ Below w.heap.size w wr) (fun i _ => l.length - (intOf i).toNat)
  case atStart => exact ⟨0, Nat.zero_le _, rfl, Lib.hid rfl, Below.refl _ _⟩
  case round =>
    obtain ⟨k, hk, rfl, HK, hb⟩ := hrel
    by_cases hlt : k < l.length
    · obtain ⟨b, off, rfl, hbl, c0, g1, g2⟩ := at_ki HA.out k hlt
      have d0 := (bc hb b (off + k) hbl).trans c0
      have l0 : b < wr.heap.size := Nat.lt_of_lt_of_le hbl hb.size
      have hx1 : (k : Int) < (l.length : Int) := by omega
      have hx2 : (0 : Int) ≤ (k : Int) := by omega
      clear c0
      cases ht : iin (l.getD k 0) 6 200
      · have hbad := boxOk_teeth hlt ht
        rw [HOK.out] at hbad
        subst hbad
        have HT := Lib.hid (fun w => by have := l01Teeth_any (l.getD k 0) w; rw [ht] at this; exact this)
        clear ht
        obtain ⟨x, hx⟩ : ∃ x, l.getD k 0 = x := ⟨_, rfl⟩
        rw [hx] at d0 g1 g2 HT
        clear hx
        have hwx : IntKind.i64.wrap x = x := IntWalk.i64_in _ (by omega)
        obtain ⟨wo, hwo⟩ : ∃ wo : World, wo = wr := ⟨_, rfl⟩
        subst hwo
        go_wp2
        first | refine region_drewN (DIs (.bool false)) (by kernel_rfl) (by kernel_rfl) ?_ | refine region_drew (DIs (.bool false)) (by kernel_rfl) (by kernel_rfl) ?_
        repeat (first | (refine wpRel_plain rfl (fun K hK => ?_); intro w' hw'; obtain ⟨n', rfl⟩ := hw'; go_simp; refine ⟨?_, fun v hv => ?_⟩; (go_at_call 51; refine (HT.out _).mono ?_; rintro e w' ⟨rfl, rfl⟩; exact ⟨_, rfl, rfl, Drew.mk _ _⟩); obtain rfl : v = _ := hv; (refine hK _ ?_; clear hK K n')) | (refine wpRel_plain rfl (fun K hK => ?_); intro w' hw'; obtain ⟨n', rfl⟩ := hw'; go_simp; refine ⟨Drew.mk _ _, hK _ ?_⟩; clear hK K n') | (refine wpRel_step (fun K hK => ?_); go_simp; first | (refine hK _ ?_; clear hK K) | (intro w' hw'; obtain ⟨n', rfl⟩ := hw'; go_simp; refine ⟨Drew.mk _ _, hK _ ?_⟩; clear hK K n')))
        (refine wpRel_nil ?_; intro w' hw'; obtain ⟨nq, rfl⟩ := hw')
        clear hwx
        go_wp2
        go_ret
        exact ⟨rfl, bdrewN hb _⟩
      · have HT := Lib.hid (fun w => by have := l01Teeth_any (l.getD k 0) w; rw [ht] at this; exact this)
        have HT1 := Lib.hid ht
        clear ht
        cases k with
        | zero =>
          have HK2 := Lib.hid (bxTo_succ HK.out HT1.out (.inl rfl))
          obtain ⟨x, hx⟩ : ∃ x, l.getD 0 0 = x := ⟨_, rfl⟩
          rw [hx] at d0 g1 g2 HT
          clear hx
          have hwx : IntKind.i64.wrap x = x := IntWalk.i64_in _ (by omega)
          simp only [Nat.add_zero] at d0
          obtain ⟨wo, hwo⟩ : ∃ wo : World, wo = wr := ⟨_, rfl⟩
          subst hwo
          go_wp2
          first | refine region_drewN (DIs (.bool true)) (by kernel_rfl) (by kernel_rfl) ?_ | refine region_drew (DIs (.bool true)) (by kernel_rfl) (by kernel_rfl) ?_
          repeat (first | (refine wpRel_plain rfl (fun K hK => ?_); intro w' hw'; obtain ⟨n', rfl⟩ := hw'; go_simp; refine ⟨?_, fun v hv => ?_⟩; (go_at_call 51; refine (HT.out _).mono ?_; rintro e w' ⟨rfl, rfl⟩; exact ⟨_, rfl, rfl, Drew.mk _ _⟩); obtain rfl : v = _ := hv; (refine hK _ ?_; clear hK K n')) | (refine wpRel_plain rfl (fun K hK => ?_); intro w' hw'; obtain ⟨n', rfl⟩ := hw'; go_simp; refine ⟨Drew.mk _ _, hK _ ?_⟩; clear hK K n') | (refine wpRel_step (fun K hK => ?_); go_simp; first | (refine hK _ ?_; clear hK K) | (intro w' hw'; obtain ⟨n', rfl⟩ := hw'; go_simp; refine ⟨Drew.mk _ _, hK _ ?_⟩; clear hK K n')))
          (refine wpRel_nil ?_; intro w' hw'; obtain ⟨nq, rfl⟩ := hw')
          clear hwx
          go_wp2
          go_roundw
          case rel => exact ⟨1, hlt, by go_num, HK2, bdrewN hb _⟩
          case measure => simp [intOf]; omega
        | succ j =>
          have d1 := (bc hb b (off + j) hbl).trans (at_ki1 HA.out j (by omega) b off rfl)
          have HC := Lib.hid (fun h => bxTo_succ HK.out HT1.out (.inr h))
          have HD := Lib.hid (fun h => boxOk_order (l := l) (j := j) hlt h)
          rw [show j + 1 - 1 = j from rfl] at HC
          obtain ⟨y, hy⟩ : ∃ y, l.getD j 0 = y := ⟨_, rfl⟩
          rw [hy] at d1 HC HD
          clear hy
          obtain ⟨x, hx⟩ : ∃ x, l.getD (j + 1) 0 = x := ⟨_, rfl⟩
          rw [hx] at d0 g1 g2 HT HC HD
          clear hx
          have hwx : IntKind.i64.wrap x = x := IntWalk.i64_in _ (by omega)
          have hj1 : (j : Int) < (l.length : Int) := by omega
          have hj2 : (j : Int) + 1 < (l.length : Int) := by omega
          have hj3 : (0 : Int) < (j : Int) + 1 := by omega
          have hw1 : IntKind.i64.wrap (j : Int) = (j : Int) := IntWalk.i64_in _ (by omega)
          have hw2 : IntKind.i64.wrap (((j + 1 : Nat) : Int) - 1) = (j : Int) := by rw [show (((j + 1 : Nat) : Int) - 1) = (j : Int) from by omega]; exact hw1
          have hw3 : IntKind.i64.wrap ((j : Int) + 1 - 1) = (j : Int) := by rw [show ((j : Int) + 1 - 1) = (j : Int) from by omega]; exact hw1
          have hdt : decide ((0 : Int) < (j : Int) + 1) = true := decide_eq_true hj3
          obtain ⟨wo, hwo⟩ : ∃ wo : World, wo = wr := ⟨_, rfl⟩
          subst hwo
          by_cases hle : x ≤ y
          · have hbad := HD.out hle
            rw [HOK.out] at hbad
            subst hbad
            have hdl : decide (x ≤ y) = true := decide_eq_true hle
            clear hle
            go_wp2
            first | refine region_drewN (DIs (.bool true)) (by kernel_rfl) (by kernel_rfl) ?_ | refine region_drew (DIs (.bool true)) (by kernel_rfl) (by kernel_rfl) ?_
            repeat (first | (refine wpRel_plain rfl (fun K hK => ?_); intro w' hw'; obtain ⟨n', rfl⟩ := hw'; go_simp; refine ⟨?_, fun v hv => ?_⟩; (go_at_call 51; refine (HT.out _).mono ?_; rintro e w' ⟨rfl, rfl⟩; exact ⟨_, rfl, rfl, Drew.mk _ _⟩); obtain rfl : v = _ := hv; (refine hK _ ?_; clear hK K n')) | (refine wpRel_plain rfl (fun K hK => ?_); intro w' hw'; obtain ⟨n', rfl⟩ := hw'; go_simp; refine ⟨Drew.mk _ _, hK _ ?_⟩; clear hK K n') | (refine wpRel_step (fun K hK => ?_); go_simp; first | (refine hK _ ?_; clear hK K) | (intro w' hw'; obtain ⟨n', rfl⟩ := hw'; go_simp; refine ⟨Drew.mk _ _, hK _ ?_⟩; clear hK K n')))
            (refine wpRel_nil ?_; intro w' hw'; obtain ⟨nq, rfl⟩ := hw')
            clear hw1 hw2 hw3 hwx
            go_wp2
            go_ret
            exact ⟨rfl, bdrewN hb _⟩
          · have HK2 := Lib.hid (HC.out (by omega))
            have hdl : decide (x ≤ y) = false := decide_eq_false hle
            clear hle
            go_wp2
            first | refine region_drewN (DIs (.bool true)) (by kernel_rfl) (by kernel_rfl) ?_ | refine region_drew (DIs (.bool true)) (by kernel_rfl) (by kernel_rfl) ?_
            repeat (first | (refine wpRel_plain rfl (fun K hK => ?_); intro w' hw'; obtain ⟨n', rfl⟩ := hw'; go_simp; refine ⟨?_, fun v hv => ?_⟩; (go_at_call 51; refine (HT.out _).mono ?_; rintro e w' ⟨rfl, rfl⟩; exact ⟨_, rfl, rfl, Drew.mk _ _⟩); obtain rfl : v = _ := hv; (refine hK _ ?_; clear hK K n')) | (refine wpRel_plain rfl (fun K hK => ?_); intro w' hw'; obtain ⟨n', rfl⟩ := hw'; go_simp; refine ⟨Drew.mk _ _, hK _ ?_⟩; clear hK K n') | (refine wpRel_step (fun K hK => ?_); go_simp; first | (refine hK _ ?_; clear hK K) | (intro w' hw'; obtain ⟨n', rfl⟩ := hw'; go_simp; refine ⟨Drew.mk _ _, hK _ ?_⟩; clear hK K n')))
            (refine wpRel_nil ?_; intro w' hw'; obtain ⟨nq, rfl⟩ := hw')
            clear hw1 hw2 hw3 hwx
            go_wp2
            go_roundw
            case rel => exact ⟨j + 1 + 1, hlt, by go_num, HK2, bdrewN hb _⟩
            case measure => simp [intOf]; omega
    · obtain rfl : k = l.length := by omega
      have HE := Lib.hid (boxOk_end HK.out)
      rw [HOK.out] at HE
      have HI := Lib.hid (fun w => by have := l00In_any l.length 2 24 w; rw [← HE.out] at this; exact this)
      go_wp2_with (go_at_call 52; refine (HI.out _).mono ?_; rintro e w' ⟨rfl, rfl⟩)
      go_ret
      exact ⟨rfl, hb⟩
end Go.Proofs.Ytggcajillncamaa
namespace Go.Proofs.Ytggcajillncamaa
open Go.RowKit Ieee
open Go.Proofs.YtggcajillncamaaW.PrintWords
set_option maxRecDepth 100000
attribute [local irreducible] wpRel
set_option maxHeartbeats 2000000 in
theorem validBox_impl (A : Option Addr) (c : Nat) (l : List Int) (w : World) (hA : Kd.C ki16 w A l.length l) (hm : l.length ≤ 2000000) :
    Calls Try.prog 22 #[.slice A l.length c] w fun e w' => e = .returned (.bool (boxOk l)) ∧ w = w' := by
  have HA : Hid (Kd.C ki16 w A l.length l) := Lib.hid hA
  clear hA
  obtain ⟨ok, hok⟩ : ∃ ok, boxOk l = ok := ⟨_, rfl⟩
  rw [hok]
  have HOK := Lib.hid hok
  clear hok
  go_enter Try.func22, Try.ntmps22
  go_wp2
  go_loop [3, 4, 7] (fun _ _ i => ∃ k : Nat, k ≤ l.length ∧ i = .int .i64 k ∧ Hid (bxTo l k = true)) (fun _ _ i => l.length - (intOf i).toNat)
  case atStart => exact ⟨0, Nat.zero_le _, rfl, Lib.hid rfl⟩
  case round =>
    obtain ⟨k, hk, rfl, HK⟩ := hrel
    by_cases hlt : k < l.length
    · obtain ⟨b, off, rfl, hbl, d0, g1, g2⟩ := at_ki HA.out k hlt
      have hx1 : (k : Int) < (l.length : Int) := by omega
      have hx2 : (0 : Int) ≤ (k : Int) := by omega
      cases ht : iin (l.getD k 0) 6 200
      · have hbad := boxOk_teeth hlt ht
        rw [HOK.out] at hbad
        subst hbad
        have HT := Lib.hid (fun w => by have := areTeeth_any (l.getD k 0) w; rw [ht] at this; exact this)
        clear ht
        obtain ⟨x, hx⟩ : ∃ x, l.getD k 0 = x := ⟨_, rfl⟩
        rw [hx] at d0 g1 g2 HT
        clear hx
        go_wp2_with (go_at_call 45; refine (HT.out _).mono ?_; rintro e w' ⟨rfl, rfl⟩)
        go_ret
        exact ⟨rfl, rfl⟩
      · have HT := Lib.hid (fun w => by have := areTeeth_any (l.getD k 0) w; rw [ht] at this; exact this)
        have HT1 := Lib.hid ht
        clear ht
        cases k with
        | zero =>
          have HK2 := Lib.hid (bxTo_succ HK.out HT1.out (.inl rfl))
          obtain ⟨x, hx⟩ : ∃ x, l.getD 0 0 = x := ⟨_, rfl⟩
          rw [hx] at d0 g1 g2 HT
          clear hx
          simp only [Nat.add_zero] at d0
          go_wp2_with (go_at_call 45; refine (HT.out _).mono ?_; rintro e w' ⟨rfl, rfl⟩)
          go_round
          case rel => exact ⟨1, hlt, by go_num, HK2⟩
          case measure => simp [intOf]; omega
        | succ j =>
          have d1 := at_ki1 HA.out j (by omega) b off rfl
          have HC := Lib.hid (fun h => bxTo_succ HK.out HT1.out (.inr h))
          have HD := Lib.hid (fun h => boxOk_order (l := l) (j := j) hlt h)
          rw [show j + 1 - 1 = j from rfl] at HC
          obtain ⟨y, hy⟩ : ∃ y, l.getD j 0 = y := ⟨_, rfl⟩
          rw [hy] at d1 HC HD
          clear hy
          obtain ⟨x, hx⟩ : ∃ x, l.getD (j + 1) 0 = x := ⟨_, rfl⟩
          rw [hx] at d0 g1 g2 HT HC HD
          clear hx
          have hj1 : (j : Int) < (l.length : Int) := by omega
          have hj2 : (j : Int) + 1 < (l.length : Int) := by omega
          have hj3 : (0 : Int) < (j : Int) + 1 := by omega
          by_cases hle : x ≤ y
          · have hbad := HD.out hle
            rw [HOK.out] at hbad
            subst hbad
            have hdl : decide (x ≤ y) = true := decide_eq_true hle
            go_wp2_with (go_at_call 45; refine (HT.out _).mono ?_; rintro e w' ⟨rfl, rfl⟩)
            go_ret
            exact ⟨rfl, rfl⟩
          · have HK2 := Lib.hid (HC.out (by omega))
            have hdl : decide (x ≤ y) = false := decide_eq_false hle
            clear hle
            go_wp2_with (go_at_call 45; refine (HT.out _).mono ?_; rintro e w' ⟨rfl, rfl⟩)
            go_round
            case rel => exact ⟨j + 1 + 1, hlt, by go_num, HK2⟩
            case measure => simp [intOf]; omega
    · obtain rfl : k = l.length := by omega
      have HE := Lib.hid (boxOk_end HK.out)
      rw [HOK.out] at HE
      have HI := Lib.hid (fun w => by have := within_any l.length 2 24 w; rw [← HE.out] at this; exact this)
      go_wp2_with (go_at_call 46; refine (HI.out _).mono ?_; rintro e w' ⟨rfl, rfl⟩)
      go_ret
      exact ⟨rfl, rfl⟩
end Go.Proofs.Ytggcajillncamaa
