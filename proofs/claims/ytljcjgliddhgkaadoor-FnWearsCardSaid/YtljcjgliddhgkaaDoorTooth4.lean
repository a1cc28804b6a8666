/- What is worn on the side that is used; teeth turned and made new: contracts and laws. Teeth turned and made new: contracts and laws. -/
import Derived.Test.YtljcjgliddhgkaaDoorTooth2
namespace Go.Proofs.YtljcjgliddhgkaaDoor
open Go.RowKit Ieee
set_option maxRecDepth 100000

def wearV (x y : Nat) (s : Int) : Nat := if s = 0 then x else y
theorem ok_side {h x y : Nat} {s : Int} (hk : okTooth h x y s = true) : s = 0 ∨ s = 1 := by
  unfold okTooth iin at hk
  simp at hk
  omega
/-- The answers of WearOf, of TurnTooth, of NewTooth. -/
def wearA (h x y : Nat) (s : Int) : Value := if okTooth h x y s = true then .tuple #[.float .f32 (wearV x y s), .int .i64 0] else .tuple #[.float .f32 0, .int .i64 1]
def zeroT : Value := .agg #[.float .f32 0, .float .f32 0, .float .f32 0, .int .i8 0]
def turnA (h x y : Nat) (s : Int) : Value := if okTooth h x y s = true then .tuple #[.agg #[.float .f32 h, .float .f32 x, .float .f32 y, .int .i8 (1 - s)], .int .i64 0] else .tuple #[zeroT, .int .i64 1]
def newA (h x y : Nat) (s : Int) : Value := if okTooth h x y s = true then .tuple #[.agg #[.float .f32 h, .float .f32 0, .float .f32 0, .int .i8 0], .int .i64 0] else .tuple #[zeroT, .int .i64 1]

set_option maxHeartbeats 1000000 in
theorem wear_any (b off : Nat) (x y : Nat) (s : Int) (hs : s = 0 ∨ s = 1) (w : World)
    (c1 : w.cell? ⟨b, off + 1, none⟩ = some (.float .f32 x)) (c2 : w.cell? ⟨b, off + 2, none⟩ = some (.float .f32 y)) (c3 : w.cell? ⟨b, off + 3, none⟩ = some (.int .i8 s)) :
    Calls Tryd.prog 45 #[.pointer (some ⟨b, off, none⟩)] w fun e w' => e = .returned (.float .f32 (wearV x y s)) ∧ Drew w w' := by
  rcases hs with rfl | rfl
  all_goals
    go_enter Tryd.func45, Tryd.ntmps45
    go_wp2
    first | refine region_drewN (DIs (.bool true)) (by kernel_rfl) (by kernel_rfl) ?_ | refine region_drew (DIs (.bool true)) (by kernel_rfl) (by kernel_rfl) ?_
    repeat (refine wpRel_plain rfl (fun K hK => ?_); intro w' hw'; obtain ⟨n', rfl⟩ := hw'; go_simp; refine ⟨Drew.mk _ _, hK _ ?_⟩; clear hK K n')
    (refine wpRel_nil ?_; intro w' hw'; obtain ⟨nq, rfl⟩ := hw')
    go_wp2
    go_ret
    exact ⟨by simp [wearV], Drew.mk _ _⟩

set_option maxHeartbeats 1000000 in
theorem wearOf_impl (h x y : Nat) (s : Int) (hsl : -128 ≤ s) (hsu : s ≤ 127) (w : World) :
    Calls Tryd.prog 17 #[.agg #[.float .f32 h, .float .f32 x, .float .f32 y, .int .i8 s]] w fun e w' => e = .returned (wearA h x y s) ∧ Below w.heap.size w w' := by
  cases hk : okTooth h x y s
  · go_enter Tryd.func17, Tryd.ntmps17
    go_wp2_with (go_at_call 22; refine (validTooth_impl _ _ _ _ hsl hsu _).mono ?_; rintro e w1 ⟨rfl, hb1⟩; have hc1 := bc hb1; have hf1 := bf hb1; have hs1 := hb1.size; (try simp at hs1); (try have hz10 : w.heap.size < w1.heap.size := by omega); (try have hz11 : w.heap.size + 1 < w1.heap.size := by omega); (try have hz12 : w.heap.size + 1 + 1 < w1.heap.size := by omega); (try have hz13 : w.heap.size + 1 + 1 + 1 < w1.heap.size := by omega))
    all_goals (go_ret2; refine ⟨by simp [wearA, hk], ?_⟩)
    all_goals (repeat (first | with_reducible exact Below.refl _ _ | with_reducible refine bset ?_ (by first | (simp; done) | (simp; omega) | omega) _ | with_reducible refine balloc ?_ _ | with_reducible refine bdrewN ?_ _ | with_reducible refine bdrew ?_ | with_reducible refine bstep ?_ (by assumption)))
  · have hsd := ok_side hk
    go_enter Tryd.func17, Tryd.ntmps17
    go_wp2_with (first | (go_at_call 22; refine (validTooth_impl _ _ _ _ hsl hsu _).mono ?_; rintro e w1 ⟨rfl, hb1⟩; have hc1 := bc hb1; have hf1 := bf hb1; have hs1 := hb1.size; (try simp at hs1); (try have hz10 : w.heap.size < w1.heap.size := by omega); (try have hz11 : w.heap.size + 1 < w1.heap.size := by omega); (try have hz12 : w.heap.size + 1 + 1 < w1.heap.size := by omega); (try have hz13 : w.heap.size + 1 + 1 + 1 < w1.heap.size := by omega)) | (go_at_call 45; refine (wear_any _ _ x y s hsd _ (by go_simp) (by go_simp) (by go_simp)).mono ?_; rintro e w' ⟨rfl, n2, rfl⟩))
    all_goals (go_ret2; refine ⟨by simp [wearA, hk], ?_⟩)
    all_goals (repeat (first | with_reducible exact Below.refl _ _ | with_reducible refine bset ?_ (by first | (simp; done) | (simp; omega) | omega) _ | with_reducible refine balloc ?_ _ | with_reducible refine bdrewN ?_ _ | with_reducible refine bdrew ?_ | with_reducible refine bstep ?_ (by assumption)))
theorem wearA_ok {h x y : Nat} {s : Int} : ∃ r c, wearA h x y s = .tuple #[.float .f32 r, .int .i64 c] := by
  unfold wearA; split <;> exact ⟨_, _, rfl⟩
end Go.Proofs.YtljcjgliddhgkaaDoor
namespace Go.Proofs.YtljcjgliddhgkaaDoor
open Go.RowKit Ieee
set_option maxRecDepth 100000

set_option maxHeartbeats 2000000 in
theorem newTooth_impl (h x y : Nat) (s : Int) (hsl : -128 ≤ s) (hsu : s ≤ 127) (w : World) :
    Calls Tryd.prog 19 #[.agg #[.float .f32 h, .float .f32 x, .float .f32 y, .int .i8 s]] w fun e w' => e = .returned (newA h x y s) ∧ Below w.heap.size w w' := by
  have hb0 := fun (w : World) => run_build (P := Tryd.prog) w 28 #[(0, .float .f32 h)] #[.float .f32 h, .float .f32 0, .float .f32 0, .int .i8 0] (by kernel_rfl)
  have hb1 := fun (w : World) => run_build (P := Tryd.prog) w 28 #[] #[.float .f32 0, .float .f32 0, .float .f32 0, .int .i8 0] (by kernel_rfl)
  cases hk : okTooth h x y s
  · go_enter Tryd.func19, Tryd.ntmps19
    go_wp2_with (go_at_call 22; refine (validTooth_impl _ _ _ _ hsl hsu _).mono ?_; rintro e w1 ⟨rfl, hb1⟩; have hc1 := bc hb1; have hf1 := bf hb1; have hs1 := hb1.size; (try simp at hs1); (try have hz10 : w.heap.size < w1.heap.size := by omega); (try have hz11 : w.heap.size + 1 < w1.heap.size := by omega); (try have hz12 : w.heap.size + 1 + 1 < w1.heap.size := by omega); (try have hz13 : w.heap.size + 1 + 1 + 1 < w1.heap.size := by omega))
    refine bodyPost_ret (v := .tuple #[zeroT, .int .i64 1]) (by simp only [results, Tryd.results19]; go_simp; rfl) rfl ⟨by simp [newA, hk], ?_⟩
    (repeat (first | with_reducible exact Below.refl _ _ | with_reducible refine bset ?_ (by first | (simp; done) | (simp; omega) | omega) _ | with_reducible refine balloc ?_ _ | with_reducible refine bdrewN ?_ _ | with_reducible refine bdrew ?_ | with_reducible refine bstep ?_ (by assumption)))
  · go_enter Tryd.func19, Tryd.ntmps19
    go_wp2_with (go_at_call 22; refine (validTooth_impl _ _ _ _ hsl hsu _).mono ?_; rintro e w1 ⟨rfl, hb1⟩; have hc1 := bc hb1; have hf1 := bf hb1; have hs1 := hb1.size; (try simp at hs1); (try have hz10 : w.heap.size < w1.heap.size := by omega); (try have hz11 : w.heap.size + 1 < w1.heap.size := by omega); (try have hz12 : w.heap.size + 1 + 1 < w1.heap.size := by omega); (try have hz13 : w.heap.size + 1 + 1 + 1 < w1.heap.size := by omega))
    refine bodyPost_ret (v := .tuple #[.agg #[.float .f32 h, .float .f32 0, .float .f32 0, .int .i8 0], .int .i64 0]) (by simp only [results, Tryd.results19]; go_simp; done) rfl ⟨by simp [newA, hk], ?_⟩
    (repeat (first | with_reducible exact Below.refl _ _ | with_reducible refine bset ?_ (by first | (simp; done) | (simp; omega) | omega) _ | with_reducible refine balloc ?_ _ | with_reducible refine bdrewN ?_ _ | with_reducible refine bdrew ?_ | with_reducible refine bstep ?_ (by assumption)))

theorem toTooth_x (h x y : Nat) (s : Int) (w : World) :
    Calls Tryd.prog 7 #[.agg #[.float .f32 h, .float .f32 x, .float .f32 y, .int .i8 s]] w fun e w' => e = .returned (.agg #[.float .f32 h, .float .f32 x, .float .f32 y, .int .i8 s]) ∧
      ((((((w.alloc (.cells #[.float .f32 h, .float .f32 x, .float .f32 y, .int .i8 s] 26)).alloc (.cells #[.float .f32 h, .float .f32 x, .float .f32 y, .int .i8 s] 28)).alloc (.cells #[.float .f32 h, .float .f32 x, .float .f32 y, .int .i8 s] 28)).alloc (.cells #[.float .f32 x, .float .f32 y] 23)).alloc (.cells #[.float .f32 x, .float .f32 y] 23)).alloc (.cells #[.float .f32 x, .float .f32 y] 23)) = w' := by
  go_enter Tryd.func7, Tryd.ntmps7
  go_wp2_with (go_at_call 27; refine (toA2_any _ _ _).mono ?_; rintro e w' ⟨rfl, rfl⟩)
  refine bodyPost_ret (v := .agg #[.float .f32 h, .float .f32 x, .float .f32 y, .int .i8 s]) (by simp [results, Tryd.results7, go_sem]; done) rfl ⟨rfl, rfl⟩

theorem okTooth_specx (h x y : Nat) (s : Int) (hsl : -128 ≤ s) (hsu : s ≤ 127) (w : World) :
    Calls Tryd.prog 25 #[.agg #[.float .f32 h, .float .f32 x, .float .f32 y, .int .i8 s]] w fun e w' => e = .returned (.bool (okTooth h x y s)) ∧ w.alloc (.cells #[.float .f32 h, .float .f32 x, .float .f32 y, .int .i8 s] 28) = w' := by
  go_enter Tryd.func25, Tryd.ntmps25
  go_wp2_with (first | (go_at_call 52; refine (part_any _ _).mono ?_; rintro e w' ⟨rfl, rfl⟩) | (go_at_call 53; refine (l00In_any _ _ _ _).mono ?_; rintro e w' ⟨rfl, rfl⟩))
  all_goals (go_ret; refine ⟨by simp_all [okTooth, fin], rfl⟩)
theorem validTooth_implx (h x y : Nat) (s : Int) (hsl : -128 ≤ s) (hsu : s ≤ 127) (w : World) :
    Calls Tryd.prog 22 #[.agg #[.float .f32 h, .float .f32 x, .float .f32 y, .int .i8 s]] w fun e w' => e = .returned (.bool (okTooth h x y s)) ∧ w.alloc (.cells #[.float .f32 h, .float .f32 x, .float .f32 y, .int .i8 s] 28) = w' := by
  go_enter Tryd.func22, Tryd.ntmps22
  go_wp2_with (first | (go_at_call 49; refine (between_any _ _ _ _).mono ?_; rintro e w' ⟨rfl, rfl⟩) | (go_at_call 50; refine (isPart_any _ _).mono ?_; rintro e w' ⟨rfl, rfl⟩) | (go_at_call 51; refine (within_any _ _ _ _).mono ?_; rintro e w' ⟨rfl, rfl⟩))
  all_goals (go_ret; refine ⟨by simp_all [okTooth, fin], rfl⟩)
set_option maxHeartbeats 2000000 in
theorem turned_any (b off : Nat) (h x y : Nat) (s : Int) (hs0 : 0 ≤ s) (hs1 : s ≤ 1) (w : World) (hlt : b < w.heap.size)
    (c0 : w.cell? ⟨b, off, none⟩ = some (.float .f32 h)) (c1 : w.cell? ⟨b, off + 1, none⟩ = some (.float .f32 x)) (c2 : w.cell? ⟨b, off + 2, none⟩ = some (.float .f32 y)) (c3 : w.cell? ⟨b, off + 3, none⟩ = some (.int .i8 s)) :
    Calls Tryd.prog 46 #[.pointer (some ⟨b, off, none⟩)] w fun e w' => e = .returned (.agg #[.float .f32 h, .float .f32 x, .float .f32 y, .int .i8 (1 - s)]) ∧ (w.alloc (.cells #[.float .f32 h, .float .f32 x, .float .f32 y, .int .i8 (1 - s)] 28)).alloc (.cells #[.float .f32 h, .float .f32 x, .float .f32 y, .int .i8 (1 - s)] 28) = w' := by
  go_enter Tryd.func46, Tryd.ntmps46
  go_wp2
  refine bodyPost_ret (v := .agg #[.float .f32 h, .float .f32 x, .float .f32 y, .int .i8 (1 - s)]) (by simp [results, Tryd.results46, go_sem]; done) rfl ⟨rfl, rfl⟩
set_option maxHeartbeats 2000000 in
theorem turnTooth_impl (h x y : Nat) (s : Int) (hsl : -128 ≤ s) (hsu : s ≤ 127) (w : World) :
    Calls Tryd.prog 18 #[.agg #[.float .f32 h, .float .f32 x, .float .f32 y, .int .i8 s]] w fun e w' => e = .returned (turnA h x y s) ∧ Below w.heap.size w w' := by
  have hx1 := fun (w : World) => run_build (P := Tryd.prog) w 28 #[] #[.float .f32 0, .float .f32 0, .float .f32 0, .int .i8 0] (by kernel_rfl)
  cases hk : okTooth h x y s
  · go_enter Tryd.func18, Tryd.ntmps18
    go_wp2_with (go_at_call 22; refine (validTooth_implx _ _ _ _ hsl hsu _).mono ?_; rintro e w' ⟨rfl, rfl⟩)
    refine bodyPost_ret (v := .tuple #[zeroT, .int .i64 1]) (by simp only [results, Tryd.results18]; go_simp; rfl) rfl ⟨by simp [turnA, hk], ?_⟩
    (repeat (first | with_reducible exact Below.refl _ _ | with_reducible refine bset ?_ (by first | (simp; done) | (simp; omega) | omega) _ | with_reducible refine balloc ?_ _ | with_reducible refine bdrewN ?_ _ | with_reducible refine bdrew ?_ | with_reducible refine bstep ?_ (by assumption)))
  · have hsd : 0 ≤ s ∧ s ≤ 1 := by have := ok_side hk; omega
    go_enter Tryd.func18, Tryd.ntmps18
    go_wp2_with (first | (go_at_call 22; refine (validTooth_implx _ _ _ _ hsl hsu _).mono ?_; rintro e w' ⟨rfl, rfl⟩) | (go_at_call 46; refine (turned_any _ _ h x y s hsd.1 hsd.2 _ (by go_simp <;> omega) (by go_simp) (by go_simp) (by go_simp) (by go_simp)).mono ?_; rintro e w' ⟨rfl, rfl⟩))
    refine bodyPost_ret (v := .tuple #[.agg #[.float .f32 h, .float .f32 x, .float .f32 y, .int .i8 (1 - s)], .int .i64 0]) (by simp only [results, Tryd.results18]; go_simp; done) rfl ⟨by simp [turnA, hk], ?_⟩
    (repeat (first | with_reducible exact Below.refl _ _ | with_reducible refine bset ?_ (by first | (simp; done) | (simp; omega) | omega) _ | with_reducible refine balloc ?_ _ | with_reducible refine bdrewN ?_ _ | with_reducible refine bdrew ?_ | with_reducible refine bstep ?_ (by assumption)))
theorem turnA_ok {h x y : Nat} {s : Int} : ∃ h' x' y' s' c, turnA h x y s = .tuple #[.agg #[.float .f32 h', .float .f32 x', .float .f32 y', .int .i8 s'], .int .i64 c] := by
  unfold turnA zeroT; split <;> exact ⟨_, _, _, _, _, rfl⟩
theorem newA_ok {h x y : Nat} {s : Int} : ∃ h' x' y' s' c, newA h x y s = .tuple #[.agg #[.float .f32 h', .float .f32 x', .float .f32 y', .int .i8 s'], .int .i64 c] := by
  unfold newA zeroT; split <;> exact ⟨_, _, _, _, _, rfl⟩
end Go.Proofs.YtljcjgliddhgkaaDoor
