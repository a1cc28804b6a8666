/- How often swings have different signs: the reference's walk. -/
import Derived.Test.YthdmfmhhnacgfaaCross
namespace Go.Proofs.Ythdmfmhhnacgfaa
open Go.RowKit Ieee
open Go.Proofs.YthdmfmhhnacgfaaW.PrintWords
set_option maxRecDepth 100000
attribute [local irreducible] wpRel

set_option maxHeartbeats 8000000 in
theorem crossings_spec (A : Option Addr) (c : Nat) (l : List (Nat × Nat)) (q : Nat) (w : World) (hA : Kd.C kD w A l.length l) (hm : l.length ≤ 1048576) :
    Calls Try.prog 10 #[.slice A l.length c, .float .f32 q] w (CrQ (crsO l q) w) := by
  have bad : ∀ k : Int, (k = 1 ∨ k = 2) → codeL (lineOk l) (amountL q) = k → crsO l q = (0, k) → Calls Try.prog 10 #[.slice A l.length c, .float .f32 q] w (CrQ (crsO l q) w) := by
    intro k hk hc ho
    rw [ho]
    have HC := Lib.hid (fun c => l07Asked_any A c l q k hc w hA hm)
    clear ho hc hA
    rcases hk with rfl | rfl
    all_goals
      go_enter Try.func10, Try.ntmps10
      go_wp2_with (go_at_call 21; refine (HC.out _).mono ?_; rintro e w1 ⟨rfl, hb1⟩)
      go_ret2
      exact ⟨rfl, hb1⟩
  cases hl : lineOk l
  · exact bad 1 (.inl rfl) (by simp [codeL, hl]) (by simp [crsO, outL, hl])
  · cases hq : amountL q
    · exact bad 2 (.inr rfl) (by simp [codeL, hl, hq]) (by simp [crsO, outL, hl, hq])
    · have hl2 := lineOk_len hl
      obtain ⟨xs, hxs⟩ : ∃ xs, xs = swL l (cn q) l.length := ⟨_, rfl⟩
      have e1 : crsO l q = crs xs xs.length 0 0 := by rw [hxs]; simp [crsO, outL, hl, hq]
      have HC := Lib.hid (fun c => l07Asked_any A c l q 0 (by simp [codeL, hl, hq]) w hA hm)
      have HAn : Hid (∀ w1, Below w.heap.size w w1 → Calls Try.prog 22 #[.slice A l.length c, .float .f32 q] w1 (AnsQ l (cn q) w1)) := Lib.hid (fun w1 hb => answer_spec A c l q w1 (Kd.C_below hA hb) (by omega) hm)
      obtain ⟨a, ha⟩ : ∃ a, a = crs xs xs.length 0 0 := ⟨_, rfl⟩
      have HE0 := Lib.hid (show crs xs (xs.length - 0) 0 0 = a from ha.symm)
      have hx : xs.length ≤ 10 := by rw [hxs, swL_length]; omega
      have HXS := Lib.hid hxs
      rw [e1, ← ha]
      clear ha e1 hl hq bad hA hxs
      go_enter Try.func10, Try.ntmps10
      go_wp2_with (first | (go_at_call 21; refine (HC.out _).mono ?_; rintro e w1 ⟨rfl, hb1⟩) | (go_at_call 22; refine (HAn.out _ hb1).mono ?_; rintro e w2 ⟨v1, v2, rfl, h1, h2, hn, hb2⟩; rw [← HXS.out] at h1; obtain ⟨V, vc, rfl, hvc, hV⟩ := h1.reads; have HV := Lib.hid hV; have b2 := bstep hb1 hb2; clear hV h1 h2 hn))
      go_loopw [9, 10] (fun mm i wr => ∃ k : Nat, ∃ m : Int, k ≤ xs.length ∧ i = .int .i64 k ∧ mm = .int .i64 m ∧ 0 ≤ m ∧ m ≤ k ∧ Hid (crs xs (xs.length - k) k m = a) ∧ Below w2.heap.size w2 wr) (fun _ i _ => xs.length - (intOf i).toNat)
      case atStart => exact ⟨0, 0, Nat.zero_le _, rfl, rfl, by omega, by omega, HE0, Below.refl _ _⟩
      case round =>
        obtain ⟨k, m, hk, rfl, rfl, hm0, hm1, HE, hb⟩ := hrel
        clear HE0
        by_cases hlt : k < xs.length
        · obtain ⟨b, off, r, rfl, hbl, c0, hr⟩ := at_kf HV.out k hlt
          have d0 := (bc hb b (off + k) hbl).trans c0
          have HP := Lib.hid (plain_spec r _ hr)
          clear c0
          cases hp : plainV (xs.getD k 0)
          · rw [hp] at HP
            have HD := Lib.hid ((crs_miss hlt hp).symm.trans HE.out)
            clear hp hr HE
            go_wp2_with (go_at_call 25; refine (HP.out _).mono ?_; rintro e w' ⟨rfl, rfl⟩)
            go_ret2
            exact ⟨by rw [← HD.out]; rfl, bstep b2 hb⟩
          · rw [hp] at HP
            have HD := Lib.hid ((crs_hit hlt hp).symm.trans HE.out)
            clear hp HE
            obtain ⟨wo, hwo⟩ : ∃ wo : World, wo = wr := ⟨_, rfl⟩
            subst hwo
            cases k with
            | zero =>
              have HE2 := Lib.hid (show crs xs (xs.length - (0 + 1)) (0 + 1) m = a by have := HD.out; rwa [if_neg (by omega)] at this)
              clear hr HD
              simp only [Nat.add_zero] at d0
              go_wp2_with (go_at_call 25; refine (HP.out _).mono ?_; rintro e w' ⟨rfl, rfl⟩)
              first | refine region_drewN (DIs (.bool true)) (by kernel_rfl) (by kernel_rfl) ?_ | refine region_drew (DIs (.bool true)) (by kernel_rfl) (by kernel_rfl) ?_
              repeat (first | (refine wpRel_plain rfl (fun K hK => ?_); intro w' hw'; obtain ⟨n', rfl⟩ := hw'; go_simp; refine ⟨Drew.mk _ _, hK _ ?_⟩; clear hK K n') | (refine wpRel_step (fun K hK => ?_); go_simp; first | (refine hK _ ?_; clear hK K) | (intro w' hw'; obtain ⟨n', rfl⟩ := hw'; go_simp; refine ⟨Drew.mk _ _, hK _ ?_⟩; clear hK K n')))
              (refine wpRel_nil ?_; intro w' hw'; obtain ⟨nq, rfl⟩ := hw')
              go_wp2
              go_roundw
              case rel => exact ⟨1, m, hlt, by go_num, rfl, hm0, by omega, HE2, bdrewN hb _⟩
              case measure => simp [intOf]; omega
            | succ j =>
              obtain ⟨b', off', r', hA', _, c0', hr'⟩ := at_kf HV.out j (by omega)
              cases hA'
              have d0' := (bc hb b (off + j) hbl).trans c0'
              have hd2 := HD.out
              rw [show j + 1 - 1 = j from by omega] at hd2
              have hj1 : (j : Int) < (xs.length : Int) := by omega
              have hj2 : (j : Int) + 1 < (xs.length : Int) := by omega
              have hj3 : (0 : Int) < (j : Int) + 1 := by omega
              have hw1 : IntKind.i64.wrap (j : Int) = (j : Int) := IntWalk.i64_in _ (by omega)
              have hw2 : IntKind.i64.wrap (((j + 1 : Nat) : Int) - 1) = (j : Int) := by rw [show (((j + 1 : Nat) : Int) - 1) = (j : Int) from by omega]; exact hw1
              have hw3 : IntKind.i64.wrap ((j : Int) + 1 - 1) = (j : Int) := by rw [show ((j : Int) + 1 - 1) = (j : Int) from by omega]; exact hw1
              have hdt : decide ((0 : Int) < (j : Int) + 1) = true := decide_eq_true hj3
              have HAp := Lib.hid (l07Apart_any r' _ r _ hr' hr)
              clear c0' hr hr' HD
              cases hap : apart (xs.getD j 0) (xs.getD (j + 1) 0)
              · rw [hap] at HAp
                have hd3 : crs xs (xs.length - (j + 1 + 1)) (j + 1 + 1) m = a := by rwa [if_neg (by rw [hap]; simp)] at hd2
                have HE2 := Lib.hid hd3
                clear hd2 hd3 hap
                go_wp2_with (go_at_call 25; refine (HP.out _).mono ?_; rintro e w' ⟨rfl, rfl⟩)
                first | refine region_drewN (DIs (.bool false)) (by kernel_rfl) (by kernel_rfl) ?_ | refine region_drew (DIs (.bool false)) (by kernel_rfl) (by kernel_rfl) ?_
                repeat (first | (refine wpRel_plain rfl (fun K hK => ?_); intro w' hw'; obtain ⟨n', rfl⟩ := hw'; go_simp; refine ⟨Drew.mk _ _, hK _ ?_⟩; clear hK K n') | (refine wpRel_step (fun K hK => ?_); go_simp; intro w' hw'; obtain ⟨n', rfl⟩ := hw'; go_simp; refine ⟨?_, fun v hv => ?_⟩; (go_at_call 26; refine (HAp.out _).mono ?_; rintro e w'' ⟨rfl, rfl⟩; exact ⟨_, rfl, rfl, Drew.mk _ _⟩); obtain rfl : v = _ := hv; (refine hK _ ?_; clear hK K n')) | (refine wpRel_step (fun K hK => ?_); go_simp; first | (refine hK _ ?_; clear hK K) | (intro w' hw'; obtain ⟨n', rfl⟩ := hw'; go_simp; refine ⟨Drew.mk _ _, hK _ ?_⟩; clear hK K n')))
                (refine wpRel_nil ?_; intro w' hw'; obtain ⟨nq, rfl⟩ := hw')
                clear hw1 hw2 hw3
                go_wp2
                go_roundw
                case rel => exact ⟨j + 1 + 1, m, hlt, by go_num, rfl, by omega, by omega, HE2, bdrewN hb _⟩
                case measure => simp [intOf]; omega
              · rw [hap] at HAp
                have hd3 : crs xs (xs.length - (j + 1 + 1)) (j + 1 + 1) (m + 1) = a := by rwa [if_pos ⟨by omega, hap⟩] at hd2
                have HE2 := Lib.hid hd3
                clear hd2 hd3 hap
                go_wp2_with (go_at_call 25; refine (HP.out _).mono ?_; rintro e w' ⟨rfl, rfl⟩)
                first | refine region_drewN (DIs (.bool true)) (by kernel_rfl) (by kernel_rfl) ?_ | refine region_drew (DIs (.bool true)) (by kernel_rfl) (by kernel_rfl) ?_
                repeat (first | (refine wpRel_plain rfl (fun K hK => ?_); intro w' hw'; obtain ⟨n', rfl⟩ := hw'; go_simp; refine ⟨Drew.mk _ _, hK _ ?_⟩; clear hK K n') | (refine wpRel_step (fun K hK => ?_); go_simp; intro w' hw'; obtain ⟨n', rfl⟩ := hw'; go_simp; refine ⟨?_, fun v hv => ?_⟩; (go_at_call 26; refine (HAp.out _).mono ?_; rintro e w'' ⟨rfl, rfl⟩; exact ⟨_, rfl, rfl, Drew.mk _ _⟩); obtain rfl : v = _ := hv; (refine hK _ ?_; clear hK K n')) | (refine wpRel_step (fun K hK => ?_); go_simp; first | (refine hK _ ?_; clear hK K) | (intro w' hw'; obtain ⟨n', rfl⟩ := hw'; go_simp; refine ⟨Drew.mk _ _, hK _ ?_⟩; clear hK K n')))
                (refine wpRel_nil ?_; intro w' hw'; obtain ⟨nq, rfl⟩ := hw')
                clear hw1 hw2 hw3
                go_wp2
                go_roundw
                case rel => exact ⟨j + 1 + 1, m + 1, hlt, by go_num, by go_num, by omega, by omega, HE2, bdrewN hb _⟩
                case measure => simp [intOf]; omega
        · obtain rfl : k = xs.length := by omega
          have hd : (m, (0 : Int)) = a := by have := HE.out; rwa [Nat.sub_self] at this
          have HD := Lib.hid hd
          clear hd HE
          go_wp2
          go_ret2
          exact ⟨by rw [← HD.out]; rfl, bstep b2 hb⟩
end Go.Proofs.Ythdmfmhhnacgfaa
