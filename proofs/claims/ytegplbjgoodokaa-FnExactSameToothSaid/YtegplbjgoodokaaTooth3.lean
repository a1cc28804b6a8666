/- Teeth that are compared, looked at, turned and made new: contracts and laws. -/
import Derived.Test.YtegplbjgoodokaaTooth2
namespace Go.Proofs.Ytegplbjgoodokaa
open Go.RowKit Ieee

def sameT (h x y : Nat) (s : Int) (h' x' y' : Nat) (s' : Int) : Bool := decide (s = s') && same h h' && same x x' && same y y'

set_option maxHeartbeats 1000000 in
theorem sameTooth_spec (h x y : Nat) (s : Int) (h' x' y' : Nat) (s' : Int) (w : World) :
    Calls Try.prog 14 #[.agg #[.float .f32 h, .float .f32 x, .float .f32 y, .int .i8 s], .agg #[.float .f32 h', .float .f32 x', .float .f32 y', .int .i8 s']] w fun e w' => e = .returned (.bool (sameT h x y s h' x' y' s')) ∧ Below w.heap.size w w' := by
  go_enter Try.func14, Try.ntmps14
  go_wp2_with (go_at_call 38; refine (l01Same_any _ _ _).mono ?_; rintro e w' ⟨rfl, rfl⟩)
  all_goals (go_ret; refine ⟨by first | (simp_all [sameT]; done) | (simp_all [sameT]; rfl), ?_⟩)
  all_goals (repeat (first | exact Below.refl _ _ | refine bset ?_ (by first | (simp; done) | (simp; omega) | omega) _ | refine balloc ?_ _ | refine bdrewN ?_ _ | refine bdrew ?_ | refine bstep ?_ (by assumption)))
set_option maxHeartbeats 1000000 in
theorem sameTooth_impl (h x y : Nat) (s : Int) (h' x' y' : Nat) (s' : Int) (w : World) :
    Calls Try.prog 15 #[.agg #[.float .f32 h, .float .f32 x, .float .f32 y, .int .i8 s], .agg #[.float .f32 h', .float .f32 x', .float .f32 y', .int .i8 s']] w fun e w' => e = .returned (.bool (sameT h x y s h' x' y' s')) ∧ Below w.heap.size w w' := by
  go_enter Try.func15, Try.ntmps15
  go_wp2_with (go_at_call 39; refine (sameNumber_any _ _ _).mono ?_; rintro e w' ⟨rfl, rfl⟩)
  all_goals (go_ret; refine ⟨by first | (simp_all [sameT]; done) | (simp_all [sameT]; rfl), ?_⟩)
  all_goals (repeat (first | exact Below.refl _ _ | refine bset ?_ (by first | (simp; done) | (simp; omega) | omega) _ | refine balloc ?_ _ | refine bdrewN ?_ _ | refine bdrew ?_ | refine bstep ?_ (by assumption)))
set_option maxHeartbeats 1000000 in
theorem law_sameTooth (h x y : Nat) (s : Int) (_ : h < 4294967296) (_ : x < 4294967296) (_ : y < 4294967296) (hsl : -128 ≤ s) (hsu : s ≤ 127) (h' x' y' : Nat) (s' : Int) (_ : h' < 4294967296) (_ : x' < 4294967296) (_ : y' < 4294967296) (hsl' : -128 ≤ s') (hsu' : s' ≤ 127) (w : World) :
    Calls Try.prog 4 #[.agg #[.float .f32 h, .float .f32 x, .float .f32 y, .int .i8 s], .agg #[.float .f32 h', .float .f32 x', .float .f32 y', .int .i8 s']] w fun e w' => e = .returned (.bool true) ∧ Below w.heap.size w w' := by
  go_enter Try.func4, Try.ntmps4
  go_wp2
  refine region_below (DAt [(8, .agg #[.float .f32 h, .float .f32 x, .float .f32 y, .int .i8 s]), (10, .agg #[.float .f32 h', .float .f32 x', .float .f32 y', .int .i8 s']), (11, .bool (sameT h x y s h' x' y' s'))]) (by kernel_rfl) (by kernel_rfl) ?_
  repeat (first | (refine wpRel_plain rfl (fun K hK => ?_); intro w' hb'; have hc' := bc (Bel.out hb'); go_simp; refine ⟨?_, fun v hv => ?_⟩; (go_at_call 12; refine (toTooth_any _ _ _ _ _).mono ?_; rintro e w'' ⟨rfl, hk⟩; exact ⟨_, rfl, rfl, Bel.step hb' hk⟩); (first | (obtain rfl : v = _ := hv) | (obtain rfl : v = _ := (Option.some.inj hv).symm)); (refine hK _ ?_; clear hK K hb' hc')) | (refine wpRel_plain rfl (fun K hK => ?_); intro w' hb'; have hc' := bc (Bel.out hb'); go_simp; refine ⟨?_, fun v hv => ?_⟩; (go_at_call 14; refine (sameTooth_spec _ _ _ _ _ _ _ _ _).mono ?_; rintro e w'' ⟨rfl, hk⟩; exact ⟨_, rfl, rfl, Bel.step hb' hk⟩); (first | (obtain rfl : v = _ := hv) | (obtain rfl : v = _ := (Option.some.inj hv).symm)); (refine hK _ ?_; clear hK K hb' hc')) | (refine wpRel_plain rfl (fun K hK => ?_); intro w' hb'; have hc' := bc (Bel.out hb'); go_simp; (first | refine hK _ ?_ | refine ⟨(by first | exact hb' | exact Bel.drewN hb' _ | exact Bel.alloc hb' _), hK _ ?_⟩); clear hK K hb' hc'))
  (refine wpRel_nil ?_; intro w1 hb1; replace hb1 := Bel.out hb1; have hc1 := bc hb1; have hf1 := bf hb1; have hs1 := hb1.size; (try simp at hs1); (try have hz10 : w.heap.size < w1.heap.size := by omega); (try have hz11 : w.heap.size + 1 < w1.heap.size := by omega); (try have hz12 : w.heap.size + 1 + 1 < w1.heap.size := by omega); (try have hz13 : w.heap.size + 1 + 1 + 1 < w1.heap.size := by omega))
  go_wp2
  refine region_below (DAt [(13, .agg #[.float .f32 h, .float .f32 x, .float .f32 y, .int .i8 s]), (15, .agg #[.float .f32 h', .float .f32 x', .float .f32 y', .int .i8 s']), (16, .bool (sameT h x y s h' x' y' s'))]) (by kernel_rfl) (by kernel_rfl) ?_
  repeat (first | (refine wpRel_plain rfl (fun K hK => ?_); intro w' hb'; have hc' := bc (Bel.out hb'); go_simp; refine ⟨?_, fun v hv => ?_⟩; (go_at_call 12; refine (toTooth_any _ _ _ _ _).mono ?_; rintro e w'' ⟨rfl, hk⟩; exact ⟨_, rfl, rfl, Bel.step hb' hk⟩); (first | (obtain rfl : v = _ := hv) | (obtain rfl : v = _ := (Option.some.inj hv).symm)); (refine hK _ ?_; clear hK K hb' hc')) | (refine wpRel_plain rfl (fun K hK => ?_); intro w' hb'; have hc' := bc (Bel.out hb'); go_simp; refine ⟨?_, fun v hv => ?_⟩; (go_at_call 15; refine (sameTooth_impl _ _ _ _ _ _ _ _ _).mono ?_; rintro e w'' ⟨rfl, hk⟩; exact ⟨_, rfl, rfl, Bel.step hb' hk⟩); (first | (obtain rfl : v = _ := hv) | (obtain rfl : v = _ := (Option.some.inj hv).symm)); (refine hK _ ?_; clear hK K hb' hc')) | (refine wpRel_plain rfl (fun K hK => ?_); intro w' hb'; have hc' := bc (Bel.out hb'); go_simp; (first | refine hK _ ?_ | refine ⟨(by first | exact hb' | exact Bel.drewN hb' _ | exact Bel.alloc hb' _), hK _ ?_⟩); clear hK K hb' hc'))
  (refine wpRel_nil ?_; intro w2 hb2; replace hb2 := Bel.out hb2; have hc2 := bc hb2; have hf2 := bf hb2; have hs2 := hb2.size; (try simp at hs2); (try have hz20 : w.heap.size < w2.heap.size := by omega); (try have hz21 : w.heap.size + 1 < w2.heap.size := by omega); (try have hz22 : w.heap.size + 1 + 1 < w2.heap.size := by omega); (try have hz23 : w.heap.size + 1 + 1 + 1 < w2.heap.size := by omega))
  go_wp2
  all_goals (go_ret; refine ⟨by simp_all, ?_⟩)
  all_goals (repeat (first | exact Below.refl _ _ | refine bset ?_ (by first | (simp; done) | (simp; omega) | omega) _ | refine balloc ?_ _ | refine bdrewN ?_ _ | refine bdrew ?_ | refine bstep ?_ (by assumption)))
end Go.Proofs.Ytegplbjgoodokaa
