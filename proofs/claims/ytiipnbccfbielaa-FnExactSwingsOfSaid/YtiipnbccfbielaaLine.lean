/- Valid lines of discs: contracts and the law. -/
import Derived.Test.YtiipnbccfbielaaDisc
namespace Go.Proofs.Ytiipnbccfbielaa
open Go.RowKit Ieee
open Go.Proofs.YtiipnbccfbielaaW.PrintWords
set_option maxRecDepth 100000

theorem fle_vr {r x c : Nat} (h : FV r x) (hc : cn c = c) : fle c r = fle c x := by rw [← fle_cn c r, hc, h.1]
theorem fle_vl {r x c : Nat} (h : FV r x) (hc : cn c = c) : fle r c = fle x c := by rw [← fle_cn r c, hc, h.1]
theorem fin_v {r x a b : Nat} (h : FV r x) (ha : cn a = a) (hb : cn b = b) : fin a b r = fin a b x := by unfold fin; rw [fle_vr h ha, fle_vl h hb]

/-- Two words of one value, made wide, are the same. -/
theorem wide_same {a b r s : Nat} (h : cn a = cn b) (hr : FV6 r (widen (cn a))) (hs : FV6 s (widen (cn b))) : cn6 r = cn6 s := by
  rw [hr.1, hs.1, h]

set_option maxHeartbeats 1000000 in
theorem eqDisc_any (r s r' s' : Nat) (h0 : cn r = cn r') (h1 : cn s = cn s') (w : World) :
    Calls Try.prog 66 #[.agg #[.float .f32 r, .float .f32 s], .agg #[.float .f32 r', .float .f32 s']] w fun e w' => e = .returned (.bool true) ∧ Below w.heap.size w w' := by
  have HX : Hid (cn r = cn r') := h0
  have HY : Hid (cn s = cn s') := h1
  clear h0 h1
  go_enter Try.func66, Try.ntmps66
  go_wp2_with (first | (refine wpList_conv64 (o := ⟨some 7, _, _, _, _, _⟩) rfl rfl (by kernel_rfl) Try.underlying46 rfl ?_; intro r7 n7 h7) | (refine wpList_conv64 (o := ⟨some 10, _, _, _, _, _⟩) rfl rfl (by kernel_rfl) Try.underlying46 rfl ?_; intro r10 n10 h10))
  (go_at_call 26; refine (sameFloat_any _ _ h7.2 (wide_same HX.out h7 h10) _).mono ?_; rintro e w' ⟨rfl, rfl⟩)
  go_wp2_with (first | (refine wpList_conv64 (o := ⟨some 15, _, _, _, _, _⟩) rfl rfl (by kernel_rfl) Try.underlying46 rfl ?_; intro r15 n15 h15) | (refine wpList_conv64 (o := ⟨some 18, _, _, _, _, _⟩) rfl rfl (by kernel_rfl) Try.underlying46 rfl ?_; intro r18 n18 h18))
  (go_at_call 26; refine (sameFloat_any _ _ h15.2 (wide_same HY.out h15 h18) _).mono ?_; rintro e w' ⟨rfl, rfl⟩)
  go_wp2
  all_goals (go_ret; refine ⟨by simp, ?_⟩)
  all_goals (repeat (first | with_reducible exact Below.refl _ _ | with_reducible refine bset ?_ (by first | (simp; done) | (simp; omega) | omega) _ | with_reducible refine balloc ?_ _ | with_reducible refine bdrewN ?_ _ | with_reducible refine bdrew ?_ | with_reducible refine bstep ?_ (by assumption)))

set_option maxHeartbeats 2000000 in
theorem eqDiscS_any (A B : Option Addr) (c c' : Nat) (l : List (Nat × Nat)) (w : World) (hA : Kd.C kD w A l.length l) (hB : Kd.C kD w B l.length l) (hm : l.length ≤ 1048576) :
    Calls Try.prog 19 #[.slice A l.length c, .slice B l.length c'] w fun e w' => e = .returned (.bool true) ∧ Below w.heap.size w w' := by
  have HA : Hid (Kd.C kD w A l.length l) := Lib.hid hA
  have HB : Hid (Kd.C kD w B l.length l) := Lib.hid hB
  clear hA hB
  go_enter Try.func19, Try.ntmps19
  go_wp2
  go_loopw [5] (fun i wr => ∃ k : Nat, k ≤ l.length ∧ i = .int .i64 k ∧ Below w.heap.size w wr) (fun i _ => l.length - (intOf i).toNat)
  case atStart => exact ⟨0, Nat.zero_le _, rfl, Below.refl _ _⟩
  case round =>
    obtain ⟨k, hk, rfl, hb⟩ := hrel
    by_cases hlt : k < l.length
    · obtain ⟨b, off, r, s, rfl, hbl, c0, c1, hr, hs⟩ := at_kD HA.out k hlt
      obtain ⟨b', off', r', s', rfl, hbl', c0', c1', hr', hs'⟩ := at_kD HB.out k hlt
      have d0 := (bc hb b (off + k * 2) hbl).trans c0
      have d1 := (bc hb b (off + k * 2 + 1) hbl).trans c1
      have d0' := (bc hb b' (off' + k * 2) hbl').trans c0'
      have d1' := (bc hb b' (off' + k * 2 + 1) hbl').trans c1'
      have l0 : b < wr.heap.size := Nat.lt_of_lt_of_le hbl hb.size
      have l1 : b' < wr.heap.size := Nat.lt_of_lt_of_le hbl' hb.size
      clear c0 c1 c0' c1'
      have E0 := Lib.hid (show cn r = cn r' from hr.1.trans hr'.1.symm)
      have E1 := Lib.hid (show cn s = cn s' from hs.1.trans hs'.1.symm)
      clear hr hs hr' hs'
      obtain ⟨wo, hwo⟩ : ∃ wo : World, wo = wr := ⟨_, rfl⟩
      subst hwo
      go_wp2
      refine region_below (DIs (.bool true)) (by kernel_rfl) (by kernel_rfl) ?_
      repeat (first | (refine wpRel_plain rfl (fun K hK => ?_); intro w' hb'; have hc' := bc (Bel.out hb'); go_simp; refine ⟨?_, fun v hv => ?_⟩; (go_at_call 66; refine (eqDisc_any _ _ _ _ E0.out E1.out _).mono ?_; rintro e w'' ⟨rfl, hk⟩; exact ⟨_, rfl, rfl, Bel.step hb' hk⟩); (first | (obtain rfl : v = _ := hv) | (obtain rfl : v = _ := (Option.some.inj hv).symm)); (refine hK _ ?_; clear hK K hb' hc')) | (refine wpRel_plain rfl (fun K hK => ?_); intro w' hb'; have hc' := bc (Bel.out hb'); go_simp; (first | refine hK _ ?_ | refine ⟨(by first | exact hb' | exact Bel.drewN hb' _ | exact Bel.alloc hb' _), hK _ ?_⟩); clear hK K hb' hc'))
      (refine wpRel_nil ?_; intro w1 hb1; replace hb1 := Bel.out hb1; have hc1 := bc hb1; have hf1 := bf hb1; have hs1 := hb1.size; (try simp at hs1); (try have hz10 : w.heap.size < w1.heap.size := by omega); (try have hz11 : w.heap.size + 1 < w1.heap.size := by omega); (try have hz12 : w.heap.size + 1 + 1 < w1.heap.size := by omega); (try have hz13 : w.heap.size + 1 + 1 + 1 < w1.heap.size := by omega))
      go_wp2
      go_roundw
      case rel => exact ⟨k + 1, by omega, by go_num, bstep hb hb1⟩
      case measure => simp [intOf]; omega
    · go_wp2
      go_ret
      exact ⟨by simp, hb⟩
end Go.Proofs.Ytiipnbccfbielaa
