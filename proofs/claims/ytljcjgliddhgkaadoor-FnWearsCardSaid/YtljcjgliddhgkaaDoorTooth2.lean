/- When two teeth are the same, and what is worn: contracts. -/
import Derived.Test.YtljcjgliddhgkaaDoorTooth
import Derived.Test.YtljcjgliddhgkaaDoorSame
namespace Go.Proofs.YtljcjgliddhgkaaDoor
open Go.RowKit Ieee
set_option maxRecDepth 100000

/-- Two words of one value, made wide, are the same. -/
theorem wide_same {a b r s : Nat} (h : cn a = cn b) (hr : FV6 r (widen (cn a))) (hs : FV6 s (widen (cn b))) : cn6 r = cn6 s := by
  rw [hr.1, hs.1, h]

set_option maxHeartbeats 1000000 in
theorem eqA2_any (x y x' y' : Nat) (hx : cn x = cn x') (hy : cn y = cn y') (w : World) :
    Calls Tryd.prog 36 #[.agg #[.float .f32 x, .float .f32 y], .agg #[.float .f32 x', .float .f32 y']] w fun e w' => e = .returned (.bool true) ∧ Below w.heap.size w w' := by
  have HX : Hid (cn x = cn x') := hx
  have HY : Hid (cn y = cn y') := hy
  clear hx hy
  go_enter Tryd.func36, Tryd.ntmps36
  go_wp2
  refine wp_loop_rounds 3 ?_
  rw [rounds_succ]
  go_wp2
  first | refine region_drewN (DIs (.bool true)) (by kernel_rfl) (by kernel_rfl) ?_ | refine region_drew (DIs (.bool true)) (by kernel_rfl) (by kernel_rfl) ?_
  repeat (first | (refine wpRel_plain (o := ⟨some 13, _, _, _, _, _⟩) rfl (fun K hK => ?_); refine relOp_conv64 (drewN_Drew_closed _) rfl (by kernel_rfl) Tryd.underlying68 rfl (fun r13 h13 => hK _ ?_); clear hK K) | (refine wpRel_plain (o := ⟨some 17, _, _, _, _, _⟩) rfl (fun K hK => ?_); refine relOp_conv64 (drewN_Drew_closed _) rfl (by kernel_rfl) Tryd.underlying68 rfl (fun r17 h17 => hK _ ?_); clear hK K) | (refine wpRel_plain rfl (fun K hK => ?_); intro w' hw'; obtain ⟨n', rfl⟩ := hw'; go_simp; refine ⟨?_, fun v hv => ?_⟩; (go_at_call 35; refine (sameFloat_any _ _ h13.2 (wide_same HX.out h13 h17) _).mono ?_; rintro e w' ⟨rfl, rfl⟩; exact ⟨_, rfl, rfl, Drew.mk _ _⟩); obtain rfl : v = _ := hv; (refine hK _ ?_; clear hK K n')) | (refine wpRel_plain rfl (fun K hK => ?_); intro w' hw'; obtain ⟨n', rfl⟩ := hw'; go_simp; refine ⟨Drew.mk _ _, hK _ ?_⟩; clear hK K n'))
  (refine wpRel_nil ?_; intro w' hw'; obtain ⟨nq, rfl⟩ := hw')
  clear h13 h17
  go_wp2
  rw [rounds_succ]
  go_wp2
  first | refine region_drewN (DIs (.bool true)) (by kernel_rfl) (by kernel_rfl) ?_ | refine region_drew (DIs (.bool true)) (by kernel_rfl) (by kernel_rfl) ?_
  repeat (first | (refine wpRel_plain (o := ⟨some 13, _, _, _, _, _⟩) rfl (fun K hK => ?_); refine relOp_conv64 (drewN_Drew_closed _) rfl (by kernel_rfl) Tryd.underlying68 rfl (fun r13 h13 => hK _ ?_); clear hK K) | (refine wpRel_plain (o := ⟨some 17, _, _, _, _, _⟩) rfl (fun K hK => ?_); refine relOp_conv64 (drewN_Drew_closed _) rfl (by kernel_rfl) Tryd.underlying68 rfl (fun r17 h17 => hK _ ?_); clear hK K) | (refine wpRel_plain rfl (fun K hK => ?_); intro w' hw'; obtain ⟨n', rfl⟩ := hw'; go_simp; refine ⟨?_, fun v hv => ?_⟩; (go_at_call 35; refine (sameFloat_any _ _ h13.2 (wide_same HY.out h13 h17) _).mono ?_; rintro e w' ⟨rfl, rfl⟩; exact ⟨_, rfl, rfl, Drew.mk _ _⟩); obtain rfl : v = _ := hv; (refine hK _ ?_; clear hK K n')) | (refine wpRel_plain rfl (fun K hK => ?_); intro w' hw'; obtain ⟨n', rfl⟩ := hw'; go_simp; refine ⟨Drew.mk _ _, hK _ ?_⟩; clear hK K n'))
  (refine wpRel_nil ?_; intro w' hw'; obtain ⟨nq, rfl⟩ := hw')
  clear h13 h17
  go_wp2
  rw [rounds_succ]
  go_wp2
  go_ret
  refine ⟨rfl, ?_⟩
  (repeat (first | with_reducible exact Below.refl _ _ | with_reducible refine bset ?_ (by first | (simp; done) | (simp; omega) | omega) _ | with_reducible refine balloc ?_ _ | with_reducible refine bdrewN ?_ _ | with_reducible refine bdrew ?_ | with_reducible refine bstep ?_ (by assumption)))
set_option maxHeartbeats 1000000 in
theorem eqTooth_any (h x y : Nat) (s : Int) (h' x' y' : Nat) (hh : cn h = cn h') (hx : cn x = cn x') (hy : cn y = cn y') (w : World) :
    Calls Tryd.prog 11 #[.agg #[.float .f32 h, .float .f32 x, .float .f32 y, .int .i8 s], .agg #[.float .f32 h', .float .f32 x', .float .f32 y', .int .i8 s]] w fun e w' => e = .returned (.bool true) ∧ Below w.heap.size w w' := by
  have HH : Hid (cn h = cn h') := hh
  have HX : Hid (cn x = cn x') := hx
  have HY : Hid (cn y = cn y') := hy
  clear hx hy hh
  go_enter Tryd.func11, Tryd.ntmps11
  go_wp2_with (first | (refine wpList_conv64 (o := ⟨some 7, _, _, _, _, _⟩) rfl rfl (by kernel_rfl) Tryd.underlying68 rfl ?_; intro r7 n7 h7) | (refine wpList_conv64 (o := ⟨some 10, _, _, _, _, _⟩) rfl rfl (by kernel_rfl) Tryd.underlying68 rfl ?_; intro r10 n10 h10) | (go_at_call 35; refine (sameFloat_any _ _ h7.2 (wide_same HH.out h7 h10) _).mono ?_; rintro e w' ⟨rfl, rfl⟩) | (go_at_call 36; refine (eqA2_any _ _ _ _ HX.out HY.out _).mono ?_; rintro e w1 ⟨rfl, hb1⟩; have hc1 := bc hb1; have hf1 := bf hb1; have hs1 := hb1.size; (try simp at hs1); (try have hz10 : w.heap.size < w1.heap.size := by omega); (try have hz11 : w.heap.size + 1 < w1.heap.size := by omega); (try have hz12 : w.heap.size + 1 + 1 < w1.heap.size := by omega); (try have hz13 : w.heap.size + 1 + 1 + 1 < w1.heap.size := by omega)))
  all_goals (go_ret; refine ⟨by simp, ?_⟩)
  all_goals (repeat (first | with_reducible exact Below.refl _ _ | with_reducible refine bset ?_ (by first | (simp; done) | (simp; omega) | omega) _ | with_reducible refine balloc ?_ _ | with_reducible refine bdrewN ?_ _ | with_reducible refine bdrew ?_ | with_reducible refine bstep ?_ (by assumption)))
end Go.Proofs.YtljcjgliddhgkaaDoor
