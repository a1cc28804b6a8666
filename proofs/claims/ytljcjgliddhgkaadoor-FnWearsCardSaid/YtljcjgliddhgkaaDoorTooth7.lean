/- The tooth behind a week: contracts and the law. -/
import Derived.Test.YtljcjgliddhgkaaDoorTooth6
namespace Go.Proofs.YtljcjgliddhgkaaDoor
open Go.RowKit Ieee
set_option maxRecDepth 100000

/-- What WornBy answers: values. -/
def wornR (h x y : Nat) (s : Int) (l : Nat) : Nat × Nat × Nat × Int × Int :=
  if okTooth h x y s = true then (if amount l = true then (cn h, if s = 0 then wornV h x l else cn x, if s = 0 then cn y else wornV h y l, s, 0) else (0, 0, 0, 0, 2)) else (0, 0, 0, 0, 1)
def WornQ (q : Nat × Nat × Nat × Int × Int) (w : World) (e : Ending) (w' : World) : Prop :=
  ∃ h' x' y', e = .returned (.tuple #[.agg #[.float .f32 h', .float .f32 x', .float .f32 y', .int .i8 q.2.2.2.1], .int .i64 q.2.2.2.2]) ∧ cn h' = q.1 ∧ cn x' = q.2.1 ∧ cn y' = q.2.2.1 ∧ Below w.heap.size w w'
theorem cn_zero : cn 0 = 0 := by decide
theorem WornQ.zero {w w' : World} {c : Int} (hb : Below w.heap.size w w') : WornQ (0, 0, 0, 0, c) w (.returned (.tuple #[zeroT, .int .i64 c])) w' :=
  ⟨0, 0, 0, rfl, cn_zero, cn_zero, cn_zero, hb⟩

set_option maxHeartbeats 2000000 in
theorem wornBy_spec (h x y : Nat) (s : Int) (l : Nat) (hsl : -128 ≤ s) (hsu : s ≤ 127) (w : World) :
    Calls Tryd.prog 16 #[.agg #[.float .f32 h, .float .f32 x, .float .f32 y, .int .i8 s], .float .f32 l] w (WornQ (wornR h x y s l) w) := by
  have hx1 := fun (w : World) => run_build (P := Tryd.prog) w 28 #[] #[.float .f32 0, .float .f32 0, .float .f32 0, .int .i8 0] (by kernel_rfl)
  cases hk : okTooth h x y s
  · have e1 : wornR h x y s l = (0, 0, 0, 0, 1) := by simp [wornR, hk]
    rw [e1]; clear e1
    go_enter Tryd.func16, Tryd.ntmps16
    go_wp2_with (first | (go_at_call 25; refine (okTooth_specx _ _ _ _ hsl hsu _).mono ?_; rintro e w' ⟨rfl, rfl⟩))
    refine bodyPost_ret (v := .tuple #[zeroT, .int .i64 1]) (by simp only [results, Tryd.results16]; go_simp; rfl) rfl (WornQ.zero ?_)
    (repeat (first | with_reducible exact Below.refl _ _ | with_reducible refine bset ?_ (by first | (simp; done) | (simp; omega) | omega) _ | with_reducible refine balloc ?_ _ | with_reducible refine bdrewN ?_ _ | with_reducible refine bdrew ?_ | with_reducible refine bstep ?_ (by assumption)))
  · cases ha : amount l
    · have e1 : wornR h x y s l = (0, 0, 0, 0, 2) := by simp [wornR, hk, ha]
      rw [e1]; clear e1
      go_enter Tryd.func16, Tryd.ntmps16
      go_wp2_with (first | (go_at_call 25; refine (okTooth_specx _ _ _ _ hsl hsu _).mono ?_; rintro e w' ⟨rfl, rfl⟩) | (go_at_call 43; refine (l03Amount_any _ _).mono ?_; rintro e w' ⟨rfl, rfl⟩))
      refine bodyPost_ret (v := .tuple #[zeroT, .int .i64 2]) (by simp only [results, Tryd.results16]; go_simp; rfl) rfl (WornQ.zero ?_)
      (repeat (first | with_reducible exact Below.refl _ _ | with_reducible refine bset ?_ (by first | (simp; done) | (simp; omega) | omega) _ | with_reducible refine balloc ?_ _ | with_reducible refine bdrewN ?_ _ | with_reducible refine bdrew ?_ | with_reducible refine bstep ?_ (by assumption)))
    · rcases ok_side hk with rfl | rfl
      · have e1 : wornR h x y 0 l = (cn h, wornV h x l, cn y, 0, 0) := by simp [wornR, hk, ha]
        rw [e1]; clear e1
        go_enter Tryd.func16, Tryd.ntmps16
        go_wp2_with (first | (go_at_call 25; refine (okTooth_specx _ _ _ _ hsl hsu _).mono ?_; rintro e w' ⟨rfl, rfl⟩) | (go_at_call 43; refine (l03Amount_any _ _).mono ?_; rintro e w' ⟨rfl, rfl⟩) | (go_at_call 44; refine (worn0_any _ _ _ _ _).mono ?_; rintro e w1 ⟨r1, rfl, hr1, hb1⟩; have hc1 := bc hb1; have hf1 := bf hb1; have hs1 := hb1.size; (try simp at hs1); (try have hz10 : w.heap.size < w1.heap.size := by omega); (try have hz11 : w.heap.size + 1 < w1.heap.size := by omega); (try have hz12 : w.heap.size + 1 + 1 < w1.heap.size := by omega); (try have hz13 : w.heap.size + 1 + 1 + 1 < w1.heap.size := by omega)))
        refine bodyPost_ret (v := .tuple #[.agg #[.float .f32 h, .float .f32 r1, .float .f32 y, .int .i8 0], .int .i64 0]) (by simp only [results, Tryd.results16]; go_simp; done) rfl ⟨_, _, _, rfl, rfl, hr1.1, rfl, ?_⟩
        (repeat (first | with_reducible exact Below.refl _ _ | with_reducible refine bset ?_ (by first | (simp; done) | (simp; omega) | omega) _ | with_reducible refine balloc ?_ _ | with_reducible refine bdrewN ?_ _ | with_reducible refine bdrew ?_ | with_reducible refine bstep ?_ (by assumption)))
      · have e1 : wornR h x y 1 l = (cn h, cn x, wornV h y l, 1, 0) := by simp [wornR, hk, ha]
        rw [e1]; clear e1
        go_enter Tryd.func16, Tryd.ntmps16
        go_wp2_with (first | (go_at_call 25; refine (okTooth_specx _ _ _ _ hsl hsu _).mono ?_; rintro e w' ⟨rfl, rfl⟩) | (go_at_call 43; refine (l03Amount_any _ _).mono ?_; rintro e w' ⟨rfl, rfl⟩) | (go_at_call 44; refine (worn1_any _ _ _ _ _).mono ?_; rintro e w1 ⟨r1, rfl, hr1, hb1⟩; have hc1 := bc hb1; have hf1 := bf hb1; have hs1 := hb1.size; (try simp at hs1); (try have hz10 : w.heap.size < w1.heap.size := by omega); (try have hz11 : w.heap.size + 1 < w1.heap.size := by omega); (try have hz12 : w.heap.size + 1 + 1 < w1.heap.size := by omega); (try have hz13 : w.heap.size + 1 + 1 + 1 < w1.heap.size := by omega)))
        refine bodyPost_ret (v := .tuple #[.agg #[.float .f32 h, .float .f32 x, .float .f32 r1, .int .i8 1], .int .i64 0]) (by simp only [results, Tryd.results16]; go_simp; done) rfl ⟨_, _, _, rfl, rfl, rfl, hr1.1, ?_⟩
        (repeat (first | with_reducible exact Below.refl _ _ | with_reducible refine bset ?_ (by first | (simp; done) | (simp; omega) | omega) _ | with_reducible refine balloc ?_ _ | with_reducible refine bdrewN ?_ _ | with_reducible refine bdrew ?_ | with_reducible refine bstep ?_ (by assumption)))
theorem toothCode_x (h x y : Nat) (s : Int) (hsl : -128 ≤ s) (hsu : s ≤ 127) (f : Bool) (c : Int) (hc : (if okTooth h x y s = true then (if f = true then 0 else 2) else 1 : Int) = c) (w : World) :
    Calls Tryd.prog 40 #[.agg #[.float .f32 h, .float .f32 x, .float .f32 y, .int .i8 s], .bool f] w fun e w' => e = .returned (.int .i64 c) ∧ Below w.heap.size w w' := by
  subst hc
  exact toothCode_any h x y s hsl hsu f w
set_option maxHeartbeats 2000000 in
theorem wornBy_impl (h x y : Nat) (s : Int) (l : Nat) (hsl : -128 ≤ s) (hsu : s ≤ 127) (w : World) :
    Calls Tryd.prog 15 #[.agg #[.float .f32 h, .float .f32 x, .float .f32 y, .int .i8 s], .float .f32 l] w (WornQ (wornR h x y s l) w) := by
  have hx1 := fun (w : World) => run_build (P := Tryd.prog) w 28 #[] #[.float .f32 0, .float .f32 0, .float .f32 0, .int .i8 0] (by kernel_rfl)
  cases hk : okTooth h x y s
  · have e1 : wornR h x y s l = (0, 0, 0, 0, 1) := by simp [wornR, hk]
    have hc := toothCode_x h x y s hsl hsu (amount l) 1 (by simp [hk])
    have HC := Lib.hid hc
    rw [e1]; clear e1 hc
    go_enter Tryd.func15, Tryd.ntmps15
    go_wp2
    refine region_below (DAt [(9, .bool (amount l)), (10, .int .i64 1)]) (by kernel_rfl) (by kernel_rfl) ?_
    repeat (first | (refine wpRel_plain rfl (fun K hK => ?_); intro w' hb'; have hc' := bc (Bel.out hb'); go_simp; refine ⟨?_, fun v hv => ?_⟩; (go_at_call 41; refine (isAmount_any _ _).mono ?_; rintro e w'' ⟨rfl, rfl⟩; exact ⟨_, rfl, rfl, hb'⟩); (first | (obtain rfl : v = _ := hv) | (obtain rfl : v = _ := (Option.some.inj hv).symm)); (refine hK _ ?_; clear hK K hb' hc')) | (refine wpRel_plain rfl (fun K hK => ?_); intro w' hb'; have hc' := bc (Bel.out hb'); go_simp; refine ⟨?_, fun v hv => ?_⟩; (go_at_call 40; refine (HC.out _).mono ?_; rintro e w'' ⟨rfl, hk⟩; exact ⟨_, rfl, rfl, Bel.step hb' hk⟩); (first | (obtain rfl : v = _ := hv) | (obtain rfl : v = _ := (Option.some.inj hv).symm)); (refine hK _ ?_; clear hK K hb' hc')) | (refine wpRel_plain rfl (fun K hK => ?_); intro w' hb'; have hc' := bc (Bel.out hb'); go_simp; (first | refine hK _ ?_ | refine ⟨(by first | exact hb' | exact Bel.drewN hb' _ | exact Bel.alloc hb' _), hK _ ?_⟩); clear hK K hb' hc'))
    (refine wpRel_nil ?_; intro w1 hb1; replace hb1 := Bel.out hb1; have hc1 := bc hb1; have hf1 := bf hb1; have hs1 := hb1.size; (try simp at hs1); (try have hz10 : w.heap.size < w1.heap.size := by omega); (try have hz11 : w.heap.size + 1 < w1.heap.size := by omega); (try have hz12 : w.heap.size + 1 + 1 < w1.heap.size := by omega); (try have hz13 : w.heap.size + 1 + 1 + 1 < w1.heap.size := by omega))
    go_wp2
    refine bodyPost_ret (v := .tuple #[zeroT, .int .i64 1]) (by simp only [results, Tryd.results15]; go_simp; rfl) rfl (WornQ.zero ?_)
    (repeat (first | with_reducible exact Below.refl _ _ | with_reducible refine bset ?_ (by first | (simp; done) | (simp; omega) | omega) _ | with_reducible refine balloc ?_ _ | with_reducible refine bdrewN ?_ _ | with_reducible refine bdrew ?_ | with_reducible refine bstep ?_ (by assumption)))
  · cases ha : amount l
    · have e1 : wornR h x y s l = (0, 0, 0, 0, 2) := by simp [wornR, hk, ha]
      have hc := toothCode_x h x y s hsl hsu (amount l) 2 (by simp [hk, ha])
      have HC := Lib.hid hc
      rw [e1]; clear e1 hc ha
      go_enter Tryd.func15, Tryd.ntmps15
      go_wp2
      refine region_below (DAt [(9, .bool (amount l)), (10, .int .i64 2)]) (by kernel_rfl) (by kernel_rfl) ?_
      repeat (first | (refine wpRel_plain rfl (fun K hK => ?_); intro w' hb'; have hc' := bc (Bel.out hb'); go_simp; refine ⟨?_, fun v hv => ?_⟩; (go_at_call 41; refine (isAmount_any _ _).mono ?_; rintro e w'' ⟨rfl, rfl⟩; exact ⟨_, rfl, rfl, hb'⟩); (first | (obtain rfl : v = _ := hv) | (obtain rfl : v = _ := (Option.some.inj hv).symm)); (refine hK _ ?_; clear hK K hb' hc')) | (refine wpRel_plain rfl (fun K hK => ?_); intro w' hb'; have hc' := bc (Bel.out hb'); go_simp; refine ⟨?_, fun v hv => ?_⟩; (go_at_call 40; refine (HC.out _).mono ?_; rintro e w'' ⟨rfl, hk⟩; exact ⟨_, rfl, rfl, Bel.step hb' hk⟩); (first | (obtain rfl : v = _ := hv) | (obtain rfl : v = _ := (Option.some.inj hv).symm)); (refine hK _ ?_; clear hK K hb' hc')) | (refine wpRel_plain rfl (fun K hK => ?_); intro w' hb'; have hc' := bc (Bel.out hb'); go_simp; (first | refine hK _ ?_ | refine ⟨(by first | exact hb' | exact Bel.drewN hb' _ | exact Bel.alloc hb' _), hK _ ?_⟩); clear hK K hb' hc'))
      (refine wpRel_nil ?_; intro w1 hb1; replace hb1 := Bel.out hb1; have hc1 := bc hb1; have hf1 := bf hb1; have hs1 := hb1.size; (try simp at hs1); (try have hz10 : w.heap.size < w1.heap.size := by omega); (try have hz11 : w.heap.size + 1 < w1.heap.size := by omega); (try have hz12 : w.heap.size + 1 + 1 < w1.heap.size := by omega); (try have hz13 : w.heap.size + 1 + 1 + 1 < w1.heap.size := by omega))
      go_wp2
      refine bodyPost_ret (v := .tuple #[zeroT, .int .i64 2]) (by simp only [results, Tryd.results15]; go_simp; rfl) rfl (WornQ.zero ?_)
      (repeat (first | with_reducible exact Below.refl _ _ | with_reducible refine bset ?_ (by first | (simp; done) | (simp; omega) | omega) _ | with_reducible refine balloc ?_ _ | with_reducible refine bdrewN ?_ _ | with_reducible refine bdrew ?_ | with_reducible refine bstep ?_ (by assumption)))
    · have hc := toothCode_x h x y s hsl hsu (amount l) 0 (by simp [hk, ha])
      have HC := Lib.hid hc
      clear hc
      rcases ok_side hk with rfl | rfl
      · have e1 : wornR h x y 0 l = (cn h, wornV h x l, cn y, 0, 0) := by simp [wornR, hk, ha]
        rw [e1]; clear e1 ha hk
        go_enter Tryd.func15, Tryd.ntmps15
        go_wp2
        refine region_below (DAt [(9, .bool (amount l)), (10, .int .i64 0)]) (by kernel_rfl) (by kernel_rfl) ?_
        repeat (first | (refine wpRel_plain rfl (fun K hK => ?_); intro w' hb'; have hc' := bc (Bel.out hb'); go_simp; refine ⟨?_, fun v hv => ?_⟩; (go_at_call 41; refine (isAmount_any _ _).mono ?_; rintro e w'' ⟨rfl, rfl⟩; exact ⟨_, rfl, rfl, hb'⟩); (first | (obtain rfl : v = _ := hv) | (obtain rfl : v = _ := (Option.some.inj hv).symm)); (refine hK _ ?_; clear hK K hb' hc')) | (refine wpRel_plain rfl (fun K hK => ?_); intro w' hb'; have hc' := bc (Bel.out hb'); go_simp; refine ⟨?_, fun v hv => ?_⟩; (go_at_call 40; refine (HC.out _).mono ?_; rintro e w'' ⟨rfl, hk⟩; exact ⟨_, rfl, rfl, Bel.step hb' hk⟩); (first | (obtain rfl : v = _ := hv) | (obtain rfl : v = _ := (Option.some.inj hv).symm)); (refine hK _ ?_; clear hK K hb' hc')) | (refine wpRel_plain rfl (fun K hK => ?_); intro w' hb'; have hc' := bc (Bel.out hb'); go_simp; (first | refine hK _ ?_ | refine ⟨(by first | exact hb' | exact Bel.drewN hb' _ | exact Bel.alloc hb' _), hK _ ?_⟩); clear hK K hb' hc'))
        (refine wpRel_nil ?_; intro w1 hb1; replace hb1 := Bel.out hb1; have hc1 := bc hb1; have hf1 := bf hb1; have hs1 := hb1.size; (try simp at hs1); (try have hz10 : w.heap.size < w1.heap.size := by omega); (try have hz11 : w.heap.size + 1 < w1.heap.size := by omega); (try have hz12 : w.heap.size + 1 + 1 < w1.heap.size := by omega); (try have hz13 : w.heap.size + 1 + 1 + 1 < w1.heap.size := by omega))
        go_wp2_with (go_at_call 42; refine (use0_any _ 0 h x y l _ (by go_simp <;> omega) (by intro k; go_simp) (by go_simp) (by go_simp) (by go_simp) (by go_simp)).mono ?_; rintro e w2 ⟨r2, n2, rfl, hr2, rfl⟩; have g2 : (w1.drewN n2).cell? ⟨w.heap.size, 1, none⟩ = some (.float .f32 x) := by go_simp)
        refine bodyPost_ret (v := .tuple #[.agg #[.float .f32 h, .float .f32 r2, .float .f32 y, .int .i8 0], .int .i64 0]) (by simp only [results, Tryd.results15]; go_simp; done) rfl ⟨_, _, _, rfl, rfl, hr2.1, rfl, ?_⟩
        (repeat (first | with_reducible exact Below.refl _ _ | with_reducible refine bset ?_ (by first | (simp; done) | (simp; omega) | omega) _ | with_reducible refine balloc ?_ _ | with_reducible refine bdrewN ?_ _ | with_reducible refine bdrew ?_ | with_reducible refine bstep ?_ (by assumption)))
      · have e1 : wornR h x y 1 l = (cn h, cn x, wornV h y l, 1, 0) := by simp [wornR, hk, ha]
        rw [e1]; clear e1 ha hk
        go_enter Tryd.func15, Tryd.ntmps15
        go_wp2
        refine region_below (DAt [(9, .bool (amount l)), (10, .int .i64 0)]) (by kernel_rfl) (by kernel_rfl) ?_
        repeat (first | (refine wpRel_plain rfl (fun K hK => ?_); intro w' hb'; have hc' := bc (Bel.out hb'); go_simp; refine ⟨?_, fun v hv => ?_⟩; (go_at_call 41; refine (isAmount_any _ _).mono ?_; rintro e w'' ⟨rfl, rfl⟩; exact ⟨_, rfl, rfl, hb'⟩); (first | (obtain rfl : v = _ := hv) | (obtain rfl : v = _ := (Option.some.inj hv).symm)); (refine hK _ ?_; clear hK K hb' hc')) | (refine wpRel_plain rfl (fun K hK => ?_); intro w' hb'; have hc' := bc (Bel.out hb'); go_simp; refine ⟨?_, fun v hv => ?_⟩; (go_at_call 40; refine (HC.out _).mono ?_; rintro e w'' ⟨rfl, hk⟩; exact ⟨_, rfl, rfl, Bel.step hb' hk⟩); (first | (obtain rfl : v = _ := hv) | (obtain rfl : v = _ := (Option.some.inj hv).symm)); (refine hK _ ?_; clear hK K hb' hc')) | (refine wpRel_plain rfl (fun K hK => ?_); intro w' hb'; have hc' := bc (Bel.out hb'); go_simp; (first | refine hK _ ?_ | refine ⟨(by first | exact hb' | exact Bel.drewN hb' _ | exact Bel.alloc hb' _), hK _ ?_⟩); clear hK K hb' hc'))
        (refine wpRel_nil ?_; intro w1 hb1; replace hb1 := Bel.out hb1; have hc1 := bc hb1; have hf1 := bf hb1; have hs1 := hb1.size; (try simp at hs1); (try have hz10 : w.heap.size < w1.heap.size := by omega); (try have hz11 : w.heap.size + 1 < w1.heap.size := by omega); (try have hz12 : w.heap.size + 1 + 1 < w1.heap.size := by omega); (try have hz13 : w.heap.size + 1 + 1 + 1 < w1.heap.size := by omega))
        go_wp2_with (go_at_call 42; refine (use1_any _ 0 h x y l _ (by go_simp <;> omega) (by intro k; go_simp) (by go_simp) (by go_simp) (by go_simp) (by go_simp)).mono ?_; rintro e w2 ⟨r2, n2, rfl, hr2, rfl⟩; have g2 : (w1.drewN n2).cell? ⟨w.heap.size, 2, none⟩ = some (.float .f32 y) := by go_simp)
        refine bodyPost_ret (v := .tuple #[.agg #[.float .f32 h, .float .f32 x, .float .f32 r2, .int .i8 1], .int .i64 0]) (by simp only [results, Tryd.results15]; go_simp; done) rfl ⟨_, _, _, rfl, rfl, rfl, hr2.1, ?_⟩
        (repeat (first | with_reducible exact Below.refl _ _ | with_reducible refine bset ?_ (by first | (simp; done) | (simp; omega) | omega) _ | with_reducible refine balloc ?_ _ | with_reducible refine bdrewN ?_ _ | with_reducible refine bdrew ?_ | with_reducible refine bstep ?_ (by assumption)))
end Go.Proofs.YtljcjgliddhgkaaDoor
