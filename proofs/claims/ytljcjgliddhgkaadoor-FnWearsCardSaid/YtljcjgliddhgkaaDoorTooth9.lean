/- After how many weeks a tooth is worn: the program's side, and the law. -/
import Derived.Test.YtljcjgliddhgkaaDoorTooth8
namespace Go.Proofs.YtljcjgliddhgkaaDoor
open Go.RowKit Ieee
set_option maxRecDepth 100000

theorem wear0_any (b off : Nat) (x y : Nat) (w : World)
    (c1 : w.cell? ⟨b, off + 1, none⟩ = some (.float .f32 x)) (c2 : w.cell? ⟨b, off + 2, none⟩ = some (.float .f32 y)) (c3 : w.cell? ⟨b, off + 3, none⟩ = some (.int .i8 0)) :
    Calls Tryd.prog 45 #[.pointer (some ⟨b, off, none⟩)] w fun e w' => e = .returned (.float .f32 x) ∧ Drew w w' := wear_any b off x y 0 (.inl rfl) w c1 c2 c3
theorem wear1_any (b off : Nat) (x y : Nat) (w : World)
    (c1 : w.cell? ⟨b, off + 1, none⟩ = some (.float .f32 x)) (c2 : w.cell? ⟨b, off + 2, none⟩ = some (.float .f32 y)) (c3 : w.cell? ⟨b, off + 3, none⟩ = some (.int .i8 1)) :
    Calls Tryd.prog 45 #[.pointer (some ⟨b, off, none⟩)] w fun e w' => e = .returned (.float .f32 y) ∧ Drew w w' := wear_any b off x y 1 (.inr rfl) w c1 c2 c3
set_option maxHeartbeats 4000000 in
theorem weeks_impl_a1 (h x y : Nat) (s : Int) (l q : Nat) (hsl : -128 ≤ s) (hsu : s ≤ 127) (hk : okTooth h x y s = false) (ha : amount l = false) (w : World) :
    Calls Tryd.prog 23 #[.agg #[.float .f32 h, .float .f32 x, .float .f32 y, .int .i8 s], .float .f32 l, .float .f32 q] w (WeeksQ (0, 1) w) := by
  have HA : Hid (∀ w : World, Calls Tryd.prog 41 #[.float .f32 l] w fun e w' => e = .returned (.bool false) ∧ w = w') := Lib.hid (fun w => by have := isAmount_any l w; rwa [ha] at this)
  have HC := Lib.hid (toothCode_x h x y s hsl hsu false 1 (by simp [hk]))
  clear ha hk
  go_enter Tryd.func23, Tryd.ntmps23
  go_wp2
  refine region_below (DAt [(12, .bool false), (17, .int .i64 1)]) (by kernel_rfl) (by kernel_rfl) ?_
  repeat (first | (refine wpRel_plain rfl (fun K hK => ?_); intro w' hb'; have hc' := bc (Bel.out hb'); go_simp; refine ⟨?_, fun v hv => ?_⟩; (go_at_call 41; refine (HA.out _).mono ?_; rintro e w'' ⟨rfl, rfl⟩; exact ⟨_, rfl, rfl, hb'⟩); (first | (obtain rfl : v = _ := hv) | (obtain rfl : v = _ := (Option.some.inj hv).symm)); (refine hK _ ?_; clear hK K hb' hc')) | (refine wpRel_step (fun K hK => ?_); go_simp; intro w' hb'; have hc' := bc (Bel.out hb'); go_simp; refine ⟨?_, fun v hv => ?_⟩; (go_at_call 50; refine (HP.out _).mono ?_; rintro e w'' ⟨rfl, rfl⟩; exact ⟨_, rfl, rfl, hb'⟩); (first | (obtain rfl : v = _ := hv) | (obtain rfl : v = _ := (Option.some.inj hv).symm)); (refine hK _ ?_; clear hK K hb' hc')) | (refine wpRel_plain rfl (fun K hK => ?_); intro w' hb'; have hc' := bc (Bel.out hb'); go_simp; refine ⟨?_, fun v hv => ?_⟩; (go_at_call 40; refine (HC.out _).mono ?_; rintro e w'' ⟨rfl, hk⟩; exact ⟨_, rfl, rfl, Bel.step hb' hk⟩); (first | (obtain rfl : v = _ := hv) | (obtain rfl : v = _ := (Option.some.inj hv).symm)); (refine hK _ ?_; clear hK K hb' hc')) | (refine wpRel_plain rfl (fun K hK => ?_); intro w' hb'; have hc' := bc (Bel.out hb'); go_simp; (first | refine hK _ ?_ | refine ⟨(by first | exact hb' | exact Bel.drewN hb' _ | exact Bel.alloc hb' _), hK _ ?_⟩); clear hK K hb' hc') | (refine wpRel_step (fun K hK => ?_); go_simp; first | (refine hK _ ?_; clear hK K) | (intro w' hb'; have hc' := bc (Bel.out hb'); go_simp; (first | refine hK _ ?_ | refine ⟨(by first | exact hb' | exact Bel.drewN hb' _ | exact Bel.alloc hb' _), hK _ ?_⟩); clear hK K hb' hc')))
  (refine wpRel_nil ?_; intro w1 hb1; replace hb1 := Bel.out hb1; have hc1 := bc hb1; have hf1 := bf hb1; have hs1 := hb1.size; (try simp at hs1); (try have hz10 : w.heap.size < w1.heap.size := by omega); (try have hz11 : w.heap.size + 1 < w1.heap.size := by omega); (try have hz12 : w.heap.size + 1 + 1 < w1.heap.size := by omega); (try have hz13 : w.heap.size + 1 + 1 + 1 < w1.heap.size := by omega))
  go_wp2
  go_ret2
  refine ⟨rfl, ?_⟩
  (repeat (first | with_reducible exact Below.refl _ _ | with_reducible refine bset ?_ (by first | (simp; done) | (simp; omega) | omega) _ | with_reducible refine balloc ?_ _ | with_reducible refine bdrewN ?_ _ | with_reducible refine bdrew ?_ | with_reducible refine bstep ?_ (by assumption)))
set_option maxHeartbeats 4000000 in
theorem weeks_impl_a2 (h x y : Nat) (s : Int) (l q : Nat) (hsl : -128 ≤ s) (hsu : s ≤ 127) (hk : okTooth h x y s = true) (ha : amount l = false) (w : World) :
    Calls Tryd.prog 23 #[.agg #[.float .f32 h, .float .f32 x, .float .f32 y, .int .i8 s], .float .f32 l, .float .f32 q] w (WeeksQ (0, 2) w) := by
  have HA : Hid (∀ w : World, Calls Tryd.prog 41 #[.float .f32 l] w fun e w' => e = .returned (.bool false) ∧ w = w') := Lib.hid (fun w => by have := isAmount_any l w; rwa [ha] at this)
  have HC := Lib.hid (toothCode_x h x y s hsl hsu false 2 (by simp [hk]))
  clear ha hk
  go_enter Tryd.func23, Tryd.ntmps23
  go_wp2
  refine region_below (DAt [(12, .bool false), (17, .int .i64 2)]) (by kernel_rfl) (by kernel_rfl) ?_
  repeat (first | (refine wpRel_plain rfl (fun K hK => ?_); intro w' hb'; have hc' := bc (Bel.out hb'); go_simp; refine ⟨?_, fun v hv => ?_⟩; (go_at_call 41; refine (HA.out _).mono ?_; rintro e w'' ⟨rfl, rfl⟩; exact ⟨_, rfl, rfl, hb'⟩); (first | (obtain rfl : v = _ := hv) | (obtain rfl : v = _ := (Option.some.inj hv).symm)); (refine hK _ ?_; clear hK K hb' hc')) | (refine wpRel_step (fun K hK => ?_); go_simp; intro w' hb'; have hc' := bc (Bel.out hb'); go_simp; refine ⟨?_, fun v hv => ?_⟩; (go_at_call 50; refine (HP.out _).mono ?_; rintro e w'' ⟨rfl, rfl⟩; exact ⟨_, rfl, rfl, hb'⟩); (first | (obtain rfl : v = _ := hv) | (obtain rfl : v = _ := (Option.some.inj hv).symm)); (refine hK _ ?_; clear hK K hb' hc')) | (refine wpRel_plain rfl (fun K hK => ?_); intro w' hb'; have hc' := bc (Bel.out hb'); go_simp; refine ⟨?_, fun v hv => ?_⟩; (go_at_call 40; refine (HC.out _).mono ?_; rintro e w'' ⟨rfl, hk⟩; exact ⟨_, rfl, rfl, Bel.step hb' hk⟩); (first | (obtain rfl : v = _ := hv) | (obtain rfl : v = _ := (Option.some.inj hv).symm)); (refine hK _ ?_; clear hK K hb' hc')) | (refine wpRel_plain rfl (fun K hK => ?_); intro w' hb'; have hc' := bc (Bel.out hb'); go_simp; (first | refine hK _ ?_ | refine ⟨(by first | exact hb' | exact Bel.drewN hb' _ | exact Bel.alloc hb' _), hK _ ?_⟩); clear hK K hb' hc') | (refine wpRel_step (fun K hK => ?_); go_simp; first | (refine hK _ ?_; clear hK K) | (intro w' hb'; have hc' := bc (Bel.out hb'); go_simp; (first | refine hK _ ?_ | refine ⟨(by first | exact hb' | exact Bel.drewN hb' _ | exact Bel.alloc hb' _), hK _ ?_⟩); clear hK K hb' hc')))
  (refine wpRel_nil ?_; intro w1 hb1; replace hb1 := Bel.out hb1; have hc1 := bc hb1; have hf1 := bf hb1; have hs1 := hb1.size; (try simp at hs1); (try have hz10 : w.heap.size < w1.heap.size := by omega); (try have hz11 : w.heap.size + 1 < w1.heap.size := by omega); (try have hz12 : w.heap.size + 1 + 1 < w1.heap.size := by omega); (try have hz13 : w.heap.size + 1 + 1 + 1 < w1.heap.size := by omega))
  go_wp2
  go_ret2
  refine ⟨rfl, ?_⟩
  (repeat (first | with_reducible exact Below.refl _ _ | with_reducible refine bset ?_ (by first | (simp; done) | (simp; omega) | omega) _ | with_reducible refine balloc ?_ _ | with_reducible refine bdrewN ?_ _ | with_reducible refine bdrew ?_ | with_reducible refine bstep ?_ (by assumption)))
set_option maxHeartbeats 4000000 in
theorem weeks_impl_b1 (h x y : Nat) (s : Int) (l q : Nat) (hsl : -128 ≤ s) (hsu : s ≤ 127) (hk : okTooth h x y s = false) (ha : amount l = true) (w : World) :
    Calls Tryd.prog 23 #[.agg #[.float .f32 h, .float .f32 x, .float .f32 y, .int .i8 s], .float .f32 l, .float .f32 q] w (WeeksQ (0, 1) w) := by
  have HA : Hid (∀ w : World, Calls Tryd.prog 41 #[.float .f32 l] w fun e w' => e = .returned (.bool true) ∧ w = w') := Lib.hid (fun w => by have := isAmount_any l w; rwa [ha] at this)
  have HP : Hid (∀ w : World, Calls Tryd.prog 50 #[.float .f32 q] w fun e w' => e = .returned (.bool (part q)) ∧ w = w') := Lib.hid (fun w => by have := isPart_any q w; exact this)
  have HC := Lib.hid (toothCode_x h x y s hsl hsu (part q) 1 (by simp [hk]))
  clear ha hk
  go_enter Tryd.func23, Tryd.ntmps23
  go_wp2
  refine region_below (DAt [(12, .bool true), (15, .bool (part q)), (17, .int .i64 1)]) (by kernel_rfl) (by kernel_rfl) ?_
  repeat (first | (refine wpRel_plain rfl (fun K hK => ?_); intro w' hb'; have hc' := bc (Bel.out hb'); go_simp; refine ⟨?_, fun v hv => ?_⟩; (go_at_call 41; refine (HA.out _).mono ?_; rintro e w'' ⟨rfl, rfl⟩; exact ⟨_, rfl, rfl, hb'⟩); (first | (obtain rfl : v = _ := hv) | (obtain rfl : v = _ := (Option.some.inj hv).symm)); (refine hK _ ?_; clear hK K hb' hc')) | (refine wpRel_step (fun K hK => ?_); go_simp; intro w' hb'; have hc' := bc (Bel.out hb'); go_simp; refine ⟨?_, fun v hv => ?_⟩; (go_at_call 50; refine (HP.out _).mono ?_; rintro e w'' ⟨rfl, rfl⟩; exact ⟨_, rfl, rfl, hb'⟩); (first | (obtain rfl : v = _ := hv) | (obtain rfl : v = _ := (Option.some.inj hv).symm)); (refine hK _ ?_; clear hK K hb' hc')) | (refine wpRel_plain rfl (fun K hK => ?_); intro w' hb'; have hc' := bc (Bel.out hb'); go_simp; refine ⟨?_, fun v hv => ?_⟩; (go_at_call 40; refine (HC.out _).mono ?_; rintro e w'' ⟨rfl, hk⟩; exact ⟨_, rfl, rfl, Bel.step hb' hk⟩); (first | (obtain rfl : v = _ := hv) | (obtain rfl : v = _ := (Option.some.inj hv).symm)); (refine hK _ ?_; clear hK K hb' hc')) | (refine wpRel_plain rfl (fun K hK => ?_); intro w' hb'; have hc' := bc (Bel.out hb'); go_simp; (first | refine hK _ ?_ | refine ⟨(by first | exact hb' | exact Bel.drewN hb' _ | exact Bel.alloc hb' _), hK _ ?_⟩); clear hK K hb' hc') | (refine wpRel_step (fun K hK => ?_); go_simp; first | (refine hK _ ?_; clear hK K) | (intro w' hb'; have hc' := bc (Bel.out hb'); go_simp; (first | refine hK _ ?_ | refine ⟨(by first | exact hb' | exact Bel.drewN hb' _ | exact Bel.alloc hb' _), hK _ ?_⟩); clear hK K hb' hc')))
  (refine wpRel_nil ?_; intro w1 hb1; replace hb1 := Bel.out hb1; have hc1 := bc hb1; have hf1 := bf hb1; have hs1 := hb1.size; (try simp at hs1); (try have hz10 : w.heap.size < w1.heap.size := by omega); (try have hz11 : w.heap.size + 1 < w1.heap.size := by omega); (try have hz12 : w.heap.size + 1 + 1 < w1.heap.size := by omega); (try have hz13 : w.heap.size + 1 + 1 + 1 < w1.heap.size := by omega))
  go_wp2
  go_ret2
  refine ⟨rfl, ?_⟩
  (repeat (first | with_reducible exact Below.refl _ _ | with_reducible refine bset ?_ (by first | (simp; done) | (simp; omega) | omega) _ | with_reducible refine balloc ?_ _ | with_reducible refine bdrewN ?_ _ | with_reducible refine bdrew ?_ | with_reducible refine bstep ?_ (by assumption)))
set_option maxHeartbeats 4000000 in
theorem weeks_impl_b2 (h x y : Nat) (s : Int) (l q : Nat) (hsl : -128 ≤ s) (hsu : s ≤ 127) (hk : okTooth h x y s = true) (ha : amount l = true) (hp : part q = false) (w : World) :
    Calls Tryd.prog 23 #[.agg #[.float .f32 h, .float .f32 x, .float .f32 y, .int .i8 s], .float .f32 l, .float .f32 q] w (WeeksQ (0, 2) w) := by
  have HA : Hid (∀ w : World, Calls Tryd.prog 41 #[.float .f32 l] w fun e w' => e = .returned (.bool true) ∧ w = w') := Lib.hid (fun w => by have := isAmount_any l w; rwa [ha] at this)
  have HP : Hid (∀ w : World, Calls Tryd.prog 50 #[.float .f32 q] w fun e w' => e = .returned (.bool false) ∧ w = w') := Lib.hid (fun w => by have := isPart_any q w; rwa [hp] at this)
  have HC := Lib.hid (toothCode_x h x y s hsl hsu false 2 (by simp [hk]))
  clear ha hk hp
  go_enter Tryd.func23, Tryd.ntmps23
  go_wp2
  refine region_below (DAt [(12, .bool true), (15, .bool false), (17, .int .i64 2)]) (by kernel_rfl) (by kernel_rfl) ?_
  repeat (first | (refine wpRel_plain rfl (fun K hK => ?_); intro w' hb'; have hc' := bc (Bel.out hb'); go_simp; refine ⟨?_, fun v hv => ?_⟩; (go_at_call 41; refine (HA.out _).mono ?_; rintro e w'' ⟨rfl, rfl⟩; exact ⟨_, rfl, rfl, hb'⟩); (first | (obtain rfl : v = _ := hv) | (obtain rfl : v = _ := (Option.some.inj hv).symm)); (refine hK _ ?_; clear hK K hb' hc')) | (refine wpRel_step (fun K hK => ?_); go_simp; intro w' hb'; have hc' := bc (Bel.out hb'); go_simp; refine ⟨?_, fun v hv => ?_⟩; (go_at_call 50; refine (HP.out _).mono ?_; rintro e w'' ⟨rfl, rfl⟩; exact ⟨_, rfl, rfl, hb'⟩); (first | (obtain rfl : v = _ := hv) | (obtain rfl : v = _ := (Option.some.inj hv).symm)); (refine hK _ ?_; clear hK K hb' hc')) | (refine wpRel_plain rfl (fun K hK => ?_); intro w' hb'; have hc' := bc (Bel.out hb'); go_simp; refine ⟨?_, fun v hv => ?_⟩; (go_at_call 40; refine (HC.out _).mono ?_; rintro e w'' ⟨rfl, hk⟩; exact ⟨_, rfl, rfl, Bel.step hb' hk⟩); (first | (obtain rfl : v = _ := hv) | (obtain rfl : v = _ := (Option.some.inj hv).symm)); (refine hK _ ?_; clear hK K hb' hc')) | (refine wpRel_plain rfl (fun K hK => ?_); intro w' hb'; have hc' := bc (Bel.out hb'); go_simp; (first | refine hK _ ?_ | refine ⟨(by first | exact hb' | exact Bel.drewN hb' _ | exact Bel.alloc hb' _), hK _ ?_⟩); clear hK K hb' hc') | (refine wpRel_step (fun K hK => ?_); go_simp; first | (refine hK _ ?_; clear hK K) | (intro w' hb'; have hc' := bc (Bel.out hb'); go_simp; (first | refine hK _ ?_ | refine ⟨(by first | exact hb' | exact Bel.drewN hb' _ | exact Bel.alloc hb' _), hK _ ?_⟩); clear hK K hb' hc')))
  (refine wpRel_nil ?_; intro w1 hb1; replace hb1 := Bel.out hb1; have hc1 := bc hb1; have hf1 := bf hb1; have hs1 := hb1.size; (try simp at hs1); (try have hz10 : w.heap.size < w1.heap.size := by omega); (try have hz11 : w.heap.size + 1 < w1.heap.size := by omega); (try have hz12 : w.heap.size + 1 + 1 < w1.heap.size := by omega); (try have hz13 : w.heap.size + 1 + 1 + 1 < w1.heap.size := by omega))
  go_wp2
  go_ret2
  refine ⟨rfl, ?_⟩
  (repeat (first | with_reducible exact Below.refl _ _ | with_reducible refine bset ?_ (by first | (simp; done) | (simp; omega) | omega) _ | with_reducible refine balloc ?_ _ | with_reducible refine bdrewN ?_ _ | with_reducible refine bdrew ?_ | with_reducible refine bstep ?_ (by assumption)))
set_option maxHeartbeats 4000000 in
theorem weeks_impl0 (h x y : Nat) (l q : Nat) (hk : okTooth h x y 0 = true) (hx : x < 4294967296) (ha : amount l = true) (hp : part q = true) (w : World) :
    Calls Tryd.prog 23 #[.agg #[.float .f32 h, .float .f32 x, .float .f32 y, .int .i8 0], .float .f32 l, .float .f32 q] w (WeeksQ (weeksA h x y 0 l q) w) := by
  obtain ⟨a, ha1⟩ : ∃ a, a = weeksA h x y 0 l q := ⟨_, rfl⟩
  have e1 : wkC (wkF h (cn x) l (cn q) (105 - 0) 0) = a := by rw [ha1]; simp [weeksA, hk, ha, hp]
  rw [← ha1]
  have E1 := Lib.hid e1
  have HA : Hid (∀ w : World, Calls Tryd.prog 41 #[.float .f32 l] w fun e w' => e = .returned (.bool true) ∧ w = w') := Lib.hid (fun w => by have := isAmount_any l w; rwa [ha] at this)
  have HP : Hid (∀ w : World, Calls Tryd.prog 50 #[.float .f32 q] w fun e w' => e = .returned (.bool true) ∧ w = w') := Lib.hid (fun w => by have := isPart_any q w; rwa [hp] at this)
  have HC := Lib.hid (toothCode_x h x y 0 (by decide) (by decide) true 0 (by simp [hk]))
  clear ha hk hp e1 ha1
  go_enter Tryd.func23, Tryd.ntmps23
  go_wp2
  refine region_below (DAt [(12, .bool true), (15, .bool true), (17, .int .i64 0)]) (by kernel_rfl) (by kernel_rfl) ?_
  repeat (first | (refine wpRel_plain rfl (fun K hK => ?_); intro w' hb'; have hc' := bc (Bel.out hb'); go_simp; refine ⟨?_, fun v hv => ?_⟩; (go_at_call 41; refine (HA.out _).mono ?_; rintro e w'' ⟨rfl, rfl⟩; exact ⟨_, rfl, rfl, hb'⟩); (first | (obtain rfl : v = _ := hv) | (obtain rfl : v = _ := (Option.some.inj hv).symm)); (refine hK _ ?_; clear hK K hb' hc')) | (refine wpRel_step (fun K hK => ?_); go_simp; intro w' hb'; have hc' := bc (Bel.out hb'); go_simp; refine ⟨?_, fun v hv => ?_⟩; (go_at_call 50; refine (HP.out _).mono ?_; rintro e w'' ⟨rfl, rfl⟩; exact ⟨_, rfl, rfl, hb'⟩); (first | (obtain rfl : v = _ := hv) | (obtain rfl : v = _ := (Option.some.inj hv).symm)); (refine hK _ ?_; clear hK K hb' hc')) | (refine wpRel_plain rfl (fun K hK => ?_); intro w' hb'; have hc' := bc (Bel.out hb'); go_simp; refine ⟨?_, fun v hv => ?_⟩; (go_at_call 40; refine (HC.out _).mono ?_; rintro e w'' ⟨rfl, hk⟩; exact ⟨_, rfl, rfl, Bel.step hb' hk⟩); (first | (obtain rfl : v = _ := hv) | (obtain rfl : v = _ := (Option.some.inj hv).symm)); (refine hK _ ?_; clear hK K hb' hc')) | (refine wpRel_plain rfl (fun K hK => ?_); intro w' hb'; have hc' := bc (Bel.out hb'); go_simp; (first | refine hK _ ?_ | refine ⟨(by first | exact hb' | exact Bel.drewN hb' _ | exact Bel.alloc hb' _), hK _ ?_⟩); clear hK K hb' hc') | (refine wpRel_step (fun K hK => ?_); go_simp; first | (refine hK _ ?_; clear hK K) | (intro w' hb'; have hc' := bc (Bel.out hb'); go_simp; (first | refine hK _ ?_ | refine ⟨(by first | exact hb' | exact Bel.drewN hb' _ | exact Bel.alloc hb' _), hK _ ?_⟩); clear hK K hb' hc')))
  (refine wpRel_nil ?_; intro w1 hb1; replace hb1 := Bel.out hb1; have hc1 := bc hb1; have hf1 := bf hb1; have hs1 := hb1.size; (try simp at hs1); (try have hz10 : w.heap.size < w1.heap.size := by omega); (try have hz11 : w.heap.size + 1 < w1.heap.size := by omega); (try have hz12 : w.heap.size + 1 + 1 < w1.heap.size := by omega); (try have hz13 : w.heap.size + 1 + 1 + 1 < w1.heap.size := by omega))
  go_wp2
  go_loopw [21] (fun i wr => ∃ k : Nat, ∃ r : Nat, k ≤ 105 ∧ i = .int .i64 k ∧ Hid (FV r (wks h (cn x) l k)) ∧ wr.cell? ⟨w.heap.size, 0, none⟩ = some (.float .f32 h) ∧ wr.cell? ⟨w.heap.size, 1, none⟩ = some (.float .f32 r) ∧ wr.cell? ⟨w.heap.size, 2, none⟩ = some (.float .f32 y) ∧ wr.cell? ⟨w.heap.size, 3, none⟩ = some (.int .i8 0) ∧ (∀ j, wr.frozen? ⟨w.heap.size, j, none⟩ = false) ∧ w.heap.size < wr.heap.size ∧ Hid (wkC (wkF h (cn x) l (cn q) (105 - k) k) = a) ∧ Below w.heap.size w wr) (fun i _ => 105 - (intOf i).toNat)
  case atStart => exact ⟨0, x, by omega, rfl, Lib.hid ⟨rfl, hx⟩, by go_simp, by go_simp, by go_simp, by go_simp, fun j => by go_simp, by go_simp <;> omega, E1, by (repeat (first | with_reducible exact Below.refl _ _ | with_reducible refine bset ?_ (by first | (simp; done) | (simp; omega) | omega) _ | with_reducible refine balloc ?_ _ | with_reducible refine bdrewN ?_ _ | with_reducible refine bdrew ?_ | with_reducible refine bstep ?_ (by assumption)))⟩
  case round =>
    clear hb1 hc1 hf1 hs1
    obtain ⟨k, r, hk5, rfl, HV, c0, c1, c2, c3, hf, hz, HE, hB⟩ := hrel
    clear E1
    by_cases hlt : k < 105
    · have hfv : flt q r = flt (cn q) (wks h (cn x) l k) := flt_v HV.out
      cases hq : flt q r
      · rw [hq] at hfv
        have HE2 := Lib.hid ((congrArg wkC (wkF_miss hlt hfv.symm)).symm.trans HE.out)
        clear HE hfv
        have hw1 := use0_any w.heap.size 0 h r y l
        rw [← wornV_cn h r l, HV.out.1] at hw1
        have HW := Lib.hid hw1
        clear hw1 HV
        go_wp2_with (first | (go_at_call 45; refine (wear0_any w.heap.size 0 r y _ c1 c2 c3).mono ?_; rintro e w1 ⟨rfl, n1, rfl⟩) | (go_at_call 42; refine (HW.out (wr.drewN n1) hz (fun j => hf j) c0 c1 c2 c3).mono ?_; rintro e w2 ⟨r2, n2, rfl, hr2, rfl⟩; have HR2 := Lib.hid hr2; clear hr2; have g2 : ((wr.drewN n1).drewN n2).cell? ⟨w.heap.size, 1, none⟩ = some (.float .f32 r) := c1))
        go_roundw
        case rel => exact ⟨k + 1, r2, by omega, by go_num, HR2, by go_simp, by go_simp, by go_simp, by go_simp, fun j => by go_simp, by go_simp, HE2, by (repeat (first | with_reducible exact Below.refl _ _ | with_reducible refine bset ?_ (by first | (simp; done) | (simp; omega) | omega) _ | with_reducible refine balloc ?_ _ | with_reducible refine bdrewN ?_ _ | with_reducible refine bdrew ?_ | with_reducible refine bstep ?_ (by assumption)))⟩
        case measure => simp [intOf]; omega
      · rw [hq] at hfv
        have hd := HE.out
        rw [wkF_hit hlt hfv.symm] at hd
        have hd2 : ((k : Int), (0 : Int)) = a := hd
        have HD := Lib.hid hd2
        clear hd hd2 HE hfv HV
        go_wp2_with (go_at_call 45; refine (wear0_any w.heap.size 0 r y _ c1 c2 c3).mono ?_; rintro e w1 ⟨rfl, n1, rfl⟩)
        go_ret2
        obtain rfl := HD.out
        exact ⟨rfl, bdrewN hB _⟩
    · obtain rfl : k = 105 := by omega
      have hd : ((0 : Int), (6 : Int)) = a := HE.out
      have HD := Lib.hid hd
      clear hd HE
      go_wp2
      go_ret2
      obtain rfl := HD.out
      exact ⟨rfl, hB⟩
set_option maxHeartbeats 4000000 in
theorem weeks_impl1 (h x y : Nat) (l q : Nat) (hk : okTooth h x y 1 = true) (hx : y < 4294967296) (ha : amount l = true) (hp : part q = true) (w : World) :
    Calls Tryd.prog 23 #[.agg #[.float .f32 h, .float .f32 x, .float .f32 y, .int .i8 1], .float .f32 l, .float .f32 q] w (WeeksQ (weeksA h x y 1 l q) w) := by
  obtain ⟨a, ha1⟩ : ∃ a, a = weeksA h x y 1 l q := ⟨_, rfl⟩
  have e1 : wkC (wkF h (cn y) l (cn q) (105 - 0) 0) = a := by rw [ha1]; simp [weeksA, hk, ha, hp]
  rw [← ha1]
  have E1 := Lib.hid e1
  have HA : Hid (∀ w : World, Calls Tryd.prog 41 #[.float .f32 l] w fun e w' => e = .returned (.bool true) ∧ w = w') := Lib.hid (fun w => by have := isAmount_any l w; rwa [ha] at this)
  have HP : Hid (∀ w : World, Calls Tryd.prog 50 #[.float .f32 q] w fun e w' => e = .returned (.bool true) ∧ w = w') := Lib.hid (fun w => by have := isPart_any q w; rwa [hp] at this)
  have HC := Lib.hid (toothCode_x h x y 1 (by decide) (by decide) true 0 (by simp [hk]))
  clear ha hk hp e1 ha1
  go_enter Tryd.func23, Tryd.ntmps23
  go_wp2
  refine region_below (DAt [(12, .bool true), (15, .bool true), (17, .int .i64 0)]) (by kernel_rfl) (by kernel_rfl) ?_
  repeat (first | (refine wpRel_plain rfl (fun K hK => ?_); intro w' hb'; have hc' := bc (Bel.out hb'); go_simp; refine ⟨?_, fun v hv => ?_⟩; (go_at_call 41; refine (HA.out _).mono ?_; rintro e w'' ⟨rfl, rfl⟩; exact ⟨_, rfl, rfl, hb'⟩); (first | (obtain rfl : v = _ := hv) | (obtain rfl : v = _ := (Option.some.inj hv).symm)); (refine hK _ ?_; clear hK K hb' hc')) | (refine wpRel_step (fun K hK => ?_); go_simp; intro w' hb'; have hc' := bc (Bel.out hb'); go_simp; refine ⟨?_, fun v hv => ?_⟩; (go_at_call 50; refine (HP.out _).mono ?_; rintro e w'' ⟨rfl, rfl⟩; exact ⟨_, rfl, rfl, hb'⟩); (first | (obtain rfl : v = _ := hv) | (obtain rfl : v = _ := (Option.some.inj hv).symm)); (refine hK _ ?_; clear hK K hb' hc')) | (refine wpRel_plain rfl (fun K hK => ?_); intro w' hb'; have hc' := bc (Bel.out hb'); go_simp; refine ⟨?_, fun v hv => ?_⟩; (go_at_call 40; refine (HC.out _).mono ?_; rintro e w'' ⟨rfl, hk⟩; exact ⟨_, rfl, rfl, Bel.step hb' hk⟩); (first | (obtain rfl : v = _ := hv) | (obtain rfl : v = _ := (Option.some.inj hv).symm)); (refine hK _ ?_; clear hK K hb' hc')) | (refine wpRel_plain rfl (fun K hK => ?_); intro w' hb'; have hc' := bc (Bel.out hb'); go_simp; (first | refine hK _ ?_ | refine ⟨(by first | exact hb' | exact Bel.drewN hb' _ | exact Bel.alloc hb' _), hK _ ?_⟩); clear hK K hb' hc') | (refine wpRel_step (fun K hK => ?_); go_simp; first | (refine hK _ ?_; clear hK K) | (intro w' hb'; have hc' := bc (Bel.out hb'); go_simp; (first | refine hK _ ?_ | refine ⟨(by first | exact hb' | exact Bel.drewN hb' _ | exact Bel.alloc hb' _), hK _ ?_⟩); clear hK K hb' hc')))
  (refine wpRel_nil ?_; intro w1 hb1; replace hb1 := Bel.out hb1; have hc1 := bc hb1; have hf1 := bf hb1; have hs1 := hb1.size; (try simp at hs1); (try have hz10 : w.heap.size < w1.heap.size := by omega); (try have hz11 : w.heap.size + 1 < w1.heap.size := by omega); (try have hz12 : w.heap.size + 1 + 1 < w1.heap.size := by omega); (try have hz13 : w.heap.size + 1 + 1 + 1 < w1.heap.size := by omega))
  go_wp2
  go_loopw [21] (fun i wr => ∃ k : Nat, ∃ r : Nat, k ≤ 105 ∧ i = .int .i64 k ∧ Hid (FV r (wks h (cn y) l k)) ∧ wr.cell? ⟨w.heap.size, 0, none⟩ = some (.float .f32 h) ∧ wr.cell? ⟨w.heap.size, 1, none⟩ = some (.float .f32 x) ∧ wr.cell? ⟨w.heap.size, 2, none⟩ = some (.float .f32 r) ∧ wr.cell? ⟨w.heap.size, 3, none⟩ = some (.int .i8 1) ∧ (∀ j, wr.frozen? ⟨w.heap.size, j, none⟩ = false) ∧ w.heap.size < wr.heap.size ∧ Hid (wkC (wkF h (cn y) l (cn q) (105 - k) k) = a) ∧ Below w.heap.size w wr) (fun i _ => 105 - (intOf i).toNat)
  case atStart => exact ⟨0, y, by omega, rfl, Lib.hid ⟨rfl, hx⟩, by go_simp, by go_simp, by go_simp, by go_simp, fun j => by go_simp, by go_simp <;> omega, E1, by (repeat (first | with_reducible exact Below.refl _ _ | with_reducible refine bset ?_ (by first | (simp; done) | (simp; omega) | omega) _ | with_reducible refine balloc ?_ _ | with_reducible refine bdrewN ?_ _ | with_reducible refine bdrew ?_ | with_reducible refine bstep ?_ (by assumption)))⟩
  case round =>
    clear hb1 hc1 hf1 hs1
    obtain ⟨k, r, hk5, rfl, HV, c0, c1, c2, c3, hf, hz, HE, hB⟩ := hrel
    clear E1
    by_cases hlt : k < 105
    · have hfv : flt q r = flt (cn q) (wks h (cn y) l k) := flt_v HV.out
      cases hq : flt q r
      · rw [hq] at hfv
        have HE2 := Lib.hid ((congrArg wkC (wkF_miss hlt hfv.symm)).symm.trans HE.out)
        clear HE hfv
        have hw1 := use1_any w.heap.size 0 h x r l
        rw [← wornV_cn h r l, HV.out.1] at hw1
        have HW := Lib.hid hw1
        clear hw1 HV
        go_wp2_with (first | (go_at_call 45; refine (wear1_any w.heap.size 0 x r _ c1 c2 c3).mono ?_; rintro e w1 ⟨rfl, n1, rfl⟩) | (go_at_call 42; refine (HW.out (wr.drewN n1) hz (fun j => hf j) c0 c1 c2 c3).mono ?_; rintro e w2 ⟨r2, n2, rfl, hr2, rfl⟩; have HR2 := Lib.hid hr2; clear hr2; have g2 : ((wr.drewN n1).drewN n2).cell? ⟨w.heap.size, 2, none⟩ = some (.float .f32 r) := c2))
        go_roundw
        case rel => exact ⟨k + 1, r2, by omega, by go_num, HR2, by go_simp, by go_simp, by go_simp, by go_simp, fun j => by go_simp, by go_simp, HE2, by (repeat (first | with_reducible exact Below.refl _ _ | with_reducible refine bset ?_ (by first | (simp; done) | (simp; omega) | omega) _ | with_reducible refine balloc ?_ _ | with_reducible refine bdrewN ?_ _ | with_reducible refine bdrew ?_ | with_reducible refine bstep ?_ (by assumption)))⟩
        case measure => simp [intOf]; omega
      · rw [hq] at hfv
        have hd := HE.out
        rw [wkF_hit hlt hfv.symm] at hd
        have hd2 : ((k : Int), (0 : Int)) = a := hd
        have HD := Lib.hid hd2
        clear hd hd2 HE hfv HV
        go_wp2_with (go_at_call 45; refine (wear1_any w.heap.size 0 x r _ c1 c2 c3).mono ?_; rintro e w1 ⟨rfl, n1, rfl⟩)
        go_ret2
        obtain rfl := HD.out
        exact ⟨rfl, bdrewN hB _⟩
    · obtain rfl : k = 105 := by omega
      have hd : ((0 : Int), (6 : Int)) = a := HE.out
      have HD := Lib.hid hd
      clear hd HE
      go_wp2
      go_ret2
      obtain rfl := HD.out
      exact ⟨rfl, hB⟩
theorem weeks_impl (h x y : Nat) (s : Int) (l q : Nat) (hx : x < 4294967296) (hy : y < 4294967296) (hsl : -128 ≤ s) (hsu : s ≤ 127) (w : World) :
    Calls Tryd.prog 23 #[.agg #[.float .f32 h, .float .f32 x, .float .f32 y, .int .i8 s], .float .f32 l, .float .f32 q] w (WeeksQ (weeksA h x y s l q) w) := by
  cases hk : okTooth h x y s
  · have e1 : weeksA h x y s l q = (0, 1) := by simp [weeksA, hk]
    rw [e1]
    cases ha : amount l
    · exact weeks_impl_a1 h x y s l q hsl hsu hk ha w
    · exact weeks_impl_b1 h x y s l q hsl hsu hk ha w
  · cases ha : amount l
    · have e1 : weeksA h x y s l q = (0, 2) := by simp [weeksA, hk, ha]
      rw [e1]
      exact weeks_impl_a2 h x y s l q hsl hsu hk ha w
    · cases hp : part q
      · have e1 : weeksA h x y s l q = (0, 2) := by simp [weeksA, hk, ha, hp]
        rw [e1]
        exact weeks_impl_b2 h x y s l q hsl hsu hk ha hp w
      · rcases ok_side hk with rfl | rfl
        · exact weeks_impl0 h x y l q hk hx ha hp w
        · exact weeks_impl1 h x y l q hk hy ha hp w
end Go.Proofs.YtljcjgliddhgkaaDoor
