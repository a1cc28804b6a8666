/- The law FnExactSwingsOf: the walk. -/
import Derived.Test.YtiipnbccfbielaaSwB
namespace Go.Proofs.Ytiipnbccfbielaa
open Go.RowKit Ieee
open Go.Proofs.YtiipnbccfbielaaW.PrintWords
set_option maxRecDepth 100000
attribute [local irreducible] wpRel

set_option maxHeartbeats 4000000 in
theorem eqC8_any (R I S J : Nat → Nat) (h : ∀ j, j < 8 → cn (R j) = cn (S j) ∧ cn (I j) = cn (J j)) (w : World) :
    Calls Try.prog 23 #[(.agg #[.complex .f32 (R 0) (I 0), .complex .f32 (R 1) (I 1), .complex .f32 (R 2) (I 2), .complex .f32 (R 3) (I 3), .complex .f32 (R 4) (I 4), .complex .f32 (R 5) (I 5), .complex .f32 (R 6) (I 6), .complex .f32 (R 7) (I 7)]), (.agg #[.complex .f32 (S 0) (J 0), .complex .f32 (S 1) (J 1), .complex .f32 (S 2) (J 2), .complex .f32 (S 3) (J 3), .complex .f32 (S 4) (J 4), .complex .f32 (S 5) (J 5), .complex .f32 (S 6) (J 6), .complex .f32 (S 7) (J 7)])] w fun e w' => e = .returned (.bool true) ∧ Below w.heap.size w w' := by
  have HH := Lib.hid h
  clear h
  have H0 : Hid ((∀ j, j < 8 → ((w.alloc (.cells #[.complex .f32 (R 0) (I 0), .complex .f32 (R 1) (I 1), .complex .f32 (R 2) (I 2), .complex .f32 (R 3) (I 3), .complex .f32 (R 4) (I 4), .complex .f32 (R 5) (I 5), .complex .f32 (R 6) (I 6), .complex .f32 (R 7) (I 7)] 37)).alloc (.cells #[.complex .f32 (S 0) (J 0), .complex .f32 (S 1) (J 1), .complex .f32 (S 2) (J 2), .complex .f32 (S 3) (J 3), .complex .f32 (S 4) (J 4), .complex .f32 (S 5) (J 5), .complex .f32 (S 6) (J 6), .complex .f32 (S 7) (J 7)] 37)).cell? ⟨w.heap.size, j, none⟩ = some (.complex .f32 (R j) (I j))) ∧ (∀ j, j < 8 → ((w.alloc (.cells #[.complex .f32 (R 0) (I 0), .complex .f32 (R 1) (I 1), .complex .f32 (R 2) (I 2), .complex .f32 (R 3) (I 3), .complex .f32 (R 4) (I 4), .complex .f32 (R 5) (I 5), .complex .f32 (R 6) (I 6), .complex .f32 (R 7) (I 7)] 37)).alloc (.cells #[.complex .f32 (S 0) (J 0), .complex .f32 (S 1) (J 1), .complex .f32 (S 2) (J 2), .complex .f32 (S 3) (J 3), .complex .f32 (S 4) (J 4), .complex .f32 (S 5) (J 5), .complex .f32 (S 6) (J 6), .complex .f32 (S 7) (J 7)] 37)).cell? ⟨w.heap.size + 1, j, none⟩ = some (.complex .f32 (S j) (J j)))) := Lib.hid (by
    constructor
    · intro j hj
      have hj8 : j = 0 ∨ j = 1 ∨ j = 2 ∨ j = 3 ∨ j = 4 ∨ j = 5 ∨ j = 6 ∨ j = 7 := by omega
      rcases hj8 with rfl | rfl | rfl | rfl | rfl | rfl | rfl | rfl <;> go_simp
    · intro j hj
      have hj8 : j = 0 ∨ j = 1 ∨ j = 2 ∨ j = 3 ∨ j = 4 ∨ j = 5 ∨ j = 6 ∨ j = 7 := by omega
      rcases hj8 with rfl | rfl | rfl | rfl | rfl | rfl | rfl | rfl <;> go_simp)
  have b0 : Below w.heap.size w ((w.alloc (.cells #[.complex .f32 (R 0) (I 0), .complex .f32 (R 1) (I 1), .complex .f32 (R 2) (I 2), .complex .f32 (R 3) (I 3), .complex .f32 (R 4) (I 4), .complex .f32 (R 5) (I 5), .complex .f32 (R 6) (I 6), .complex .f32 (R 7) (I 7)] 37)).alloc (.cells #[.complex .f32 (S 0) (J 0), .complex .f32 (S 1) (J 1), .complex .f32 (S 2) (J 2), .complex .f32 (S 3) (J 3), .complex .f32 (S 4) (J 4), .complex .f32 (S 5) (J 5), .complex .f32 (S 6) (J 6), .complex .f32 (S 7) (J 7)] 37)) := by (repeat (first | with_reducible exact Below.refl _ _ | with_reducible refine bset ?_ (by first | (simp; done) | (simp; omega) | omega) _ | with_reducible refine balloc ?_ _ | with_reducible refine bdrewN ?_ _ | with_reducible refine bdrew ?_ | with_reducible refine bstep ?_ (by assumption)))
  have hz0 : w.heap.size + 1 < ((w.alloc (.cells #[.complex .f32 (R 0) (I 0), .complex .f32 (R 1) (I 1), .complex .f32 (R 2) (I 2), .complex .f32 (R 3) (I 3), .complex .f32 (R 4) (I 4), .complex .f32 (R 5) (I 5), .complex .f32 (R 6) (I 6), .complex .f32 (R 7) (I 7)] 37)).alloc (.cells #[.complex .f32 (S 0) (J 0), .complex .f32 (S 1) (J 1), .complex .f32 (S 2) (J 2), .complex .f32 (S 3) (J 3), .complex .f32 (S 4) (J 4), .complex .f32 (S 5) (J 5), .complex .f32 (S 6) (J 6), .complex .f32 (S 7) (J 7)] 37)).heap.size := by simp
  have HZ := Lib.hid hz0
  clear hz0
  go_enter Try.func23, Try.ntmps23
  go_wp2
  go_loopw [5] (fun i wr => ∃ k : Nat, k ≤ 8 ∧ i = .int .i64 k ∧ Hid ((∀ j, j < 8 → wr.cell? ⟨w.heap.size, j, none⟩ = some (.complex .f32 (R j) (I j))) ∧ (∀ j, j < 8 → wr.cell? ⟨w.heap.size + 1, j, none⟩ = some (.complex .f32 (S j) (J j)))) ∧ Hid (w.heap.size + 1 < wr.heap.size) ∧ Below w.heap.size w wr) (fun i _ => 8 - (intOf i).toNat)
  case atStart => exact ⟨0, by omega, rfl, H0, HZ, b0⟩
  case round =>
    clear H0 HZ b0
    obtain ⟨k, hk, rfl, H1, HZ, hb⟩ := hrel
    by_cases hlt : k < 8
    · have d0 := H1.out.1 k hlt
      have d1 := H1.out.2 k hlt
      have HE := Lib.hid (HH.out k hlt)
      obtain ⟨wo, hwo⟩ : ∃ wo : World, wo = wr := ⟨_, rfl⟩
      subst hwo
      go_wp2
      first | refine region_drewN (DIs (.bool true)) (by kernel_rfl) (by kernel_rfl) ?_ | refine region_drew (DIs (.bool true)) (by kernel_rfl) (by kernel_rfl) ?_
      repeat (first | (refine wpRel_plain (o := ⟨some 13, _, _, _, _, _⟩) rfl (fun K hK => ?_); refine relOp_convC (drewN_Drew_closed _) rfl (by kernel_rfl) Try.underlying26 rfl (fun r13 i13 h13 g13 => hK _ ?_); clear hK K) | (refine wpRel_plain (o := ⟨some 17, _, _, _, _, _⟩) rfl (fun K hK => ?_); refine relOp_convC (drewN_Drew_closed _) rfl (by kernel_rfl) Try.underlying26 rfl (fun r17 i17 h17 g17 => hK _ ?_); clear hK K) | (refine wpRel_plain rfl (fun K hK => ?_); intro w' hw'; obtain ⟨n', rfl⟩ := hw'; go_simp; refine ⟨?_, fun v hv => ?_⟩; (go_at_call 14; refine (sameComplex_any _ _ _ _ h13.2 g13.2 (wide_same' HE.out.1 h13 h17) (wide_same' HE.out.2 g13 g17) _).mono ?_; rintro e w' ⟨rfl, rfl⟩; exact ⟨_, rfl, rfl, Drew.mk _ _⟩); obtain rfl : v = _ := hv; (refine hK _ ?_; clear hK K n')) | (refine wpRel_plain rfl (fun K hK => ?_); intro w' hw'; obtain ⟨n', rfl⟩ := hw'; go_simp; refine ⟨Drew.mk _ _, hK _ ?_⟩; clear hK K n'))
      (refine wpRel_nil ?_; intro w' hw'; obtain ⟨nq, rfl⟩ := hw')
      clear h13 h17 g13 g17 d0 d1
      go_wp2
      go_roundw
      case rel => exact ⟨k + 1, by omega, by go_num, H1, HZ, bdrewN hb _⟩
      case measure => simp [intOf]; omega
    · go_wp2
      go_ret
      exact ⟨by simp, hb⟩
set_option maxHeartbeats 4000000 in
theorem law_swingsOf (y0 y1 y2 y3 y4 y5 y6 y7 : Nat) (l0 : y0 < 4294967296) (l1 : y1 < 4294967296) (l2 : y2 < 4294967296) (l3 : y3 < 4294967296) (l4 : y4 < 4294967296) (l5 : y5 < 4294967296) (l6 : y6 < 4294967296) (l7 : y7 < 4294967296) (w : World) :
    Calls Try.prog 5 #[(.agg #[.float .f32 y0, .float .f32 y1, .float .f32 y2, .float .f32 y3, .float .f32 y4, .float .f32 y5, .float .f32 y6, .float .f32 y7])] w fun e w' => e = .returned (.bool true) ∧ Below w.heap.size w w' := by
  have h1 := swingsOf_spec y0 y1 y2 y3 y4 y5 y6 y7 l0 l1 l2 l3 l4 l5 l6 l7
  have h2 := swingsOf_impl y0 y1 y2 y3 y4 y5 y6 y7 l0 l1 l2 l3 l4 l5 l6 l7
  generalize outSw (f8 y0 y1 y2 y3 y4 y5 y6 y7) = o at h1 h2
  obtain ⟨o1, o2⟩ := o
  have H1 := Lib.hid h1
  have H2 := Lib.hid h2
  have HA := Lib.hid (toA8_any y0 y1 y2 y3 y4 y5 y6 y7)
  clear h1 h2
  clear l0 l1 l2 l3 l4 l5 l6 l7
  go_enter Try.func5, Try.ntmps5
  go_wp2_with fail
  go_at_call 21
  refine (HA.out _).mono ?_
  rintro e w1 ⟨rfl, hb1⟩
  have hc1 := bc hb1; have hf1 := bf hb1; have hs1 := hb1.size; (try simp at hs1); (try have hz10 : w.heap.size < w1.heap.size := by omega); (try have hz11 : w.heap.size + 1 < w1.heap.size := by omega); (try have hz12 : w.heap.size + 1 + 1 < w1.heap.size := by omega); (try have hz13 : w.heap.size + 1 + 1 + 1 < w1.heap.size := by omega)
  go_wp2_with fail
  go_at_call 20
  refine (H1.out _).mono ?_
  rintro e w2 ⟨R, I, rfl, hr, hb2⟩
  have hc2 := bc hb2; have hf2 := bf hb2; have hs2 := hb2.size; (try simp at hs2); (try have hz20 : w.heap.size < w2.heap.size := by omega); (try have hz21 : w.heap.size + 1 < w2.heap.size := by omega); (try have hz22 : w.heap.size + 1 + 1 < w2.heap.size := by omega); (try have hz23 : w.heap.size + 1 + 1 + 1 < w2.heap.size := by omega)
  have HR := Lib.hid hr
  clear hr
  go_wp2_with fail
  go_at_call 21
  refine (HA.out _).mono ?_
  rintro e w3 ⟨rfl, hb3⟩
  have hc3 := bc hb3; have hf3 := bf hb3; have hs3 := hb3.size; (try simp at hs3); (try have hz30 : w.heap.size < w3.heap.size := by omega); (try have hz31 : w.heap.size + 1 < w3.heap.size := by omega); (try have hz32 : w.heap.size + 1 + 1 < w3.heap.size := by omega); (try have hz33 : w.heap.size + 1 + 1 + 1 < w3.heap.size := by omega); (try have hy320 : w2.heap.size < w3.heap.size := by omega); (try have hy321 : w2.heap.size + 1 < w3.heap.size := by omega)
  go_wp2_with fail
  go_at_call 22
  refine (H2.out _).mono ?_
  rintro e w4 ⟨S, J, rfl, hs, hb4⟩
  have hc4 := bc hb4; have hf4 := bf hb4; have hs4 := hb4.size; (try simp at hs4); (try have hz40 : w.heap.size < w4.heap.size := by omega); (try have hz41 : w.heap.size + 1 < w4.heap.size := by omega); (try have hz42 : w.heap.size + 1 + 1 < w4.heap.size := by omega); (try have hz43 : w.heap.size + 1 + 1 + 1 < w4.heap.size := by omega); (try have hy420 : w2.heap.size < w4.heap.size := by omega); (try have hy421 : w2.heap.size + 1 < w4.heap.size := by omega)
  have HS := Lib.hid hs
  clear hs
  go_wp2_with fail
  go_at_call 23
  refine (eqC8_any S J R I (fun j hj => ⟨(HS.out j hj).1.1.trans (HR.out j hj).1.1.symm, (HS.out j hj).2.1.trans (HR.out j hj).2.1.symm⟩) _).mono ?_
  rintro e w5 ⟨rfl, hb5⟩
  go_wp2
  go_ret
  refine ⟨by simp, ?_⟩
  (repeat (first | with_reducible exact Below.refl _ _ | with_reducible refine bset ?_ (by first | (simp; done) | (simp; omega) | omega) _ | with_reducible refine balloc ?_ _ | with_reducible refine bdrewN ?_ _ | with_reducible refine bdrew ?_ | with_reducible refine bstep ?_ (by assumption)))
end Go.Proofs.Ytiipnbccfbielaa
