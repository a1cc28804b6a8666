/- Teeth turned and made new: contracts and laws. -/
import Derived.Test.YtegplbjgoodokaaTooth4
namespace Go.Proofs.Ytegplbjgoodokaa
open Go.RowKit Ieee

set_option maxHeartbeats 2000000 in
theorem newTooth_spec (h x y : Nat) (s : Int) (hsl : -128 ≤ s) (hsu : s ≤ 127) (w : World) :
    Calls Try.prog 19 #[.agg #[.float .f32 h, .float .f32 x, .float .f32 y, .int .i8 s]] w fun e w' => e = .returned (newA h x y s) ∧ Below w.heap.size w w' := by
  have hb0 := fun (w : World) => run_build (P := Try.prog) w 28 #[(0, .float .f32 h)] #[.float .f32 h, .float .f32 0, .float .f32 0, .int .i8 0] (by kernel_rfl)
  have hb1 := fun (w : World) => run_build (P := Try.prog) w 28 #[] #[.float .f32 0, .float .f32 0, .float .f32 0, .int .i8 0] (by kernel_rfl)
  cases hk : okTooth h x y s
  · go_enter Try.func19, Try.ntmps19
    go_wp2_with (go_at_call 33; refine (okTooth_spec _ _ _ _ hsl hsu _).mono ?_; rintro e w1 ⟨rfl, hb1⟩; have hc1 := bc hb1; have hf1 := bf hb1; have hs1 := hb1.size; (try simp at hs1); (try have hz10 : w.heap.size < w1.heap.size := by omega); (try have hz11 : w.heap.size + 1 < w1.heap.size := by omega); (try have hz12 : w.heap.size + 1 + 1 < w1.heap.size := by omega); (try have hz13 : w.heap.size + 1 + 1 + 1 < w1.heap.size := by omega))
    refine bodyPost_ret (v := .tuple #[zeroT, .int .i64 1]) (by simp only [results, Try.results19]; go_simp; rfl) rfl ⟨by simp [newA, hk], ?_⟩
    (repeat (first | with_reducible exact Below.refl _ _ | with_reducible refine bset ?_ (by first | (simp; done) | (simp; omega) | omega) _ | with_reducible refine balloc ?_ _ | with_reducible refine bdrewN ?_ _ | with_reducible refine bdrew ?_ | with_reducible refine bstep ?_ (by assumption)))
  · go_enter Try.func19, Try.ntmps19
    go_wp2_with (go_at_call 33; refine (okTooth_spec _ _ _ _ hsl hsu _).mono ?_; rintro e w1 ⟨rfl, hb1⟩; have hc1 := bc hb1; have hf1 := bf hb1; have hs1 := hb1.size; (try simp at hs1); (try have hz10 : w.heap.size < w1.heap.size := by omega); (try have hz11 : w.heap.size + 1 < w1.heap.size := by omega); (try have hz12 : w.heap.size + 1 + 1 < w1.heap.size := by omega); (try have hz13 : w.heap.size + 1 + 1 + 1 < w1.heap.size := by omega))
    refine bodyPost_ret (v := .tuple #[.agg #[.float .f32 h, .float .f32 0, .float .f32 0, .int .i8 0], .int .i64 0]) (by simp only [results, Try.results19]; go_simp; done) rfl ⟨by simp [newA, hk], ?_⟩
    (repeat (first | with_reducible exact Below.refl _ _ | with_reducible refine bset ?_ (by first | (simp; done) | (simp; omega) | omega) _ | with_reducible refine balloc ?_ _ | with_reducible refine bdrewN ?_ _ | with_reducible refine bdrew ?_ | with_reducible refine bstep ?_ (by assumption)))
set_option maxHeartbeats 2000000 in
theorem newTooth_impl (h x y : Nat) (s : Int) (hsl : -128 ≤ s) (hsu : s ≤ 127) (w : World) :
    Calls Try.prog 20 #[.agg #[.float .f32 h, .float .f32 x, .float .f32 y, .int .i8 s]] w fun e w' => e = .returned (newA h x y s) ∧ Below w.heap.size w w' := by
  have hb0 := fun (w : World) => run_build (P := Try.prog) w 28 #[(0, .float .f32 h)] #[.float .f32 h, .float .f32 0, .float .f32 0, .int .i8 0] (by kernel_rfl)
  have hb1 := fun (w : World) => run_build (P := Try.prog) w 28 #[] #[.float .f32 0, .float .f32 0, .float .f32 0, .int .i8 0] (by kernel_rfl)
  cases hk : okTooth h x y s
  · go_enter Try.func20, Try.ntmps20
    go_wp2_with (go_at_call 13; refine (validTooth_impl _ _ _ _ hsl hsu _).mono ?_; rintro e w1 ⟨rfl, hb1⟩; have hc1 := bc hb1; have hf1 := bf hb1; have hs1 := hb1.size; (try simp at hs1); (try have hz10 : w.heap.size < w1.heap.size := by omega); (try have hz11 : w.heap.size + 1 < w1.heap.size := by omega); (try have hz12 : w.heap.size + 1 + 1 < w1.heap.size := by omega); (try have hz13 : w.heap.size + 1 + 1 + 1 < w1.heap.size := by omega))
    refine bodyPost_ret (v := .tuple #[zeroT, .int .i64 1]) (by simp only [results, Try.results20]; go_simp; rfl) rfl ⟨by simp [newA, hk], ?_⟩
    (repeat (first | with_reducible exact Below.refl _ _ | with_reducible refine bset ?_ (by first | (simp; done) | (simp; omega) | omega) _ | with_reducible refine balloc ?_ _ | with_reducible refine bdrewN ?_ _ | with_reducible refine bdrew ?_ | with_reducible refine bstep ?_ (by assumption)))
  · go_enter Try.func20, Try.ntmps20
    go_wp2_with (go_at_call 13; refine (validTooth_impl _ _ _ _ hsl hsu _).mono ?_; rintro e w1 ⟨rfl, hb1⟩; have hc1 := bc hb1; have hf1 := bf hb1; have hs1 := hb1.size; (try simp at hs1); (try have hz10 : w.heap.size < w1.heap.size := by omega); (try have hz11 : w.heap.size + 1 < w1.heap.size := by omega); (try have hz12 : w.heap.size + 1 + 1 < w1.heap.size := by omega); (try have hz13 : w.heap.size + 1 + 1 + 1 < w1.heap.size := by omega))
    refine bodyPost_ret (v := .tuple #[.agg #[.float .f32 h, .float .f32 0, .float .f32 0, .int .i8 0], .int .i64 0]) (by simp only [results, Try.results20]; go_simp; done) rfl ⟨by simp [newA, hk], ?_⟩
    (repeat (first | with_reducible exact Below.refl _ _ | with_reducible refine bset ?_ (by first | (simp; done) | (simp; omega) | omega) _ | with_reducible refine balloc ?_ _ | with_reducible refine bdrewN ?_ _ | with_reducible refine bdrew ?_ | with_reducible refine bstep ?_ (by assumption)))

theorem toTooth_x (h x y : Nat) (s : Int) (w : World) :
    Calls Try.prog 12 #[.agg #[.float .f32 h, .float .f32 x, .float .f32 y, .int .i8 s]] w fun e w' => e = .returned (.agg #[.float .f32 h, .float .f32 x, .float .f32 y, .int .i8 s]) ∧
      ((((((w.alloc (.cells #[.float .f32 h, .float .f32 x, .float .f32 y, .int .i8 s] 26)).alloc (.cells #[.float .f32 h, .float .f32 x, .float .f32 y, .int .i8 s] 28)).alloc (.cells #[.float .f32 h, .float .f32 x, .float .f32 y, .int .i8 s] 28)).alloc (.cells #[.float .f32 x, .float .f32 y] 23)).alloc (.cells #[.float .f32 x, .float .f32 y] 23)).alloc (.cells #[.float .f32 x, .float .f32 y] 23)) = w' := by
  go_enter Try.func12, Try.ntmps12
  go_wp2_with (go_at_call 34; refine (toA2_any _ _ _).mono ?_; rintro e w' ⟨rfl, rfl⟩)
  refine bodyPost_ret (v := .agg #[.float .f32 h, .float .f32 x, .float .f32 y, .int .i8 s]) (by simp [results, Try.results12, go_sem]; done) rfl ⟨rfl, rfl⟩

theorem okTooth_specx (h x y : Nat) (s : Int) (hsl : -128 ≤ s) (hsu : s ≤ 127) (w : World) :
    Calls Try.prog 33 #[.agg #[.float .f32 h, .float .f32 x, .float .f32 y, .int .i8 s]] w fun e w' => e = .returned (.bool (okTooth h x y s)) ∧ w.alloc (.cells #[.float .f32 h, .float .f32 x, .float .f32 y, .int .i8 s] 28) = w' := by
  go_enter Try.func33, Try.ntmps33
  go_wp2_with (first | (go_at_call 46; refine (part_any _ _).mono ?_; rintro e w' ⟨rfl, rfl⟩) | (go_at_call 51; refine (l00In_any _ _ _ _).mono ?_; rintro e w' ⟨rfl, rfl⟩))
  all_goals (go_ret; refine ⟨by simp_all [okTooth, fin], rfl⟩)
theorem validTooth_implx (h x y : Nat) (s : Int) (hsl : -128 ≤ s) (hsu : s ≤ 127) (w : World) :
    Calls Try.prog 13 #[.agg #[.float .f32 h, .float .f32 x, .float .f32 y, .int .i8 s]] w fun e w' => e = .returned (.bool (okTooth h x y s)) ∧ w.alloc (.cells #[.float .f32 h, .float .f32 x, .float .f32 y, .int .i8 s] 28) = w' := by
  go_enter Try.func13, Try.ntmps13
  go_wp2_with (first | (go_at_call 35; refine (between_any _ _ _ _).mono ?_; rintro e w' ⟨rfl, rfl⟩) | (go_at_call 36; refine (isPart_any _ _).mono ?_; rintro e w' ⟨rfl, rfl⟩) | (go_at_call 37; refine (within_any _ _ _ _).mono ?_; rintro e w' ⟨rfl, rfl⟩))
  all_goals (go_ret; refine ⟨by simp_all [okTooth, fin], rfl⟩)
set_option maxHeartbeats 2000000 in
theorem turnTooth_spec (h x y : Nat) (s : Int) (hsl : -128 ≤ s) (hsu : s ≤ 127) (w : World) :
    Calls Try.prog 27 #[.agg #[.float .f32 h, .float .f32 x, .float .f32 y, .int .i8 s]] w fun e w' => e = .returned (turnA h x y s) ∧ Below w.heap.size w w' := by
  have hx0 := fun (w : World) => run_build (P := Try.prog) w 28 #[(0, .float .f32 h)] #[.float .f32 h, .float .f32 0, .float .f32 0, .int .i8 0] (by kernel_rfl)
  have hx1 := fun (w : World) => run_build (P := Try.prog) w 28 #[] #[.float .f32 0, .float .f32 0, .float .f32 0, .int .i8 0] (by kernel_rfl)
  cases hk : okTooth h x y s
  · go_enter Try.func27, Try.ntmps27
    go_wp2_with (go_at_call 33; refine (okTooth_specx _ _ _ _ hsl hsu _).mono ?_; rintro e w' ⟨rfl, rfl⟩)
    refine bodyPost_ret (v := .tuple #[zeroT, .int .i64 1]) (by simp only [results, Try.results27]; go_simp; rfl) rfl ⟨by simp [turnA, hk], ?_⟩
    (repeat (first | with_reducible exact Below.refl _ _ | with_reducible refine bset ?_ (by first | (simp; done) | (simp; omega) | omega) _ | with_reducible refine balloc ?_ _ | with_reducible refine bdrewN ?_ _ | with_reducible refine bdrew ?_ | with_reducible refine bstep ?_ (by assumption)))
  · have hsd : 0 ≤ s ∧ s ≤ 1 := by have := ok_side hk; omega
    go_enter Try.func27, Try.ntmps27
    go_wp2_with (go_at_call 33; refine (okTooth_specx _ _ _ _ hsl hsu _).mono ?_; rintro e w' ⟨rfl, rfl⟩)
    refine bodyPost_ret (v := .tuple #[.agg #[.float .f32 h, .float .f32 x, .float .f32 y, .int .i8 (1 - s)], .int .i64 0]) (by simp only [results, Try.results27]; go_simp; done) rfl ⟨by simp [turnA, hk], ?_⟩
    (repeat (first | with_reducible exact Below.refl _ _ | with_reducible refine bset ?_ (by first | (simp; done) | (simp; omega) | omega) _ | with_reducible refine balloc ?_ _ | with_reducible refine bdrewN ?_ _ | with_reducible refine bdrew ?_ | with_reducible refine bstep ?_ (by assumption)))
set_option maxHeartbeats 2000000 in
theorem turned_any (b off : Nat) (h x y : Nat) (s : Int) (hs0 : 0 ≤ s) (hs1 : s ≤ 1) (w : World) (hlt : b < w.heap.size)
    (c0 : w.cell? ⟨b, off, none⟩ = some (.float .f32 h)) (c1 : w.cell? ⟨b, off + 1, none⟩ = some (.float .f32 x)) (c2 : w.cell? ⟨b, off + 2, none⟩ = some (.float .f32 y)) (c3 : w.cell? ⟨b, off + 3, none⟩ = some (.int .i8 s)) :
    Calls Try.prog 44 #[.pointer (some ⟨b, off, none⟩)] w fun e w' => e = .returned (.agg #[.float .f32 h, .float .f32 x, .float .f32 y, .int .i8 (1 - s)]) ∧ (w.alloc (.cells #[.float .f32 h, .float .f32 x, .float .f32 y, .int .i8 (1 - s)] 28)).alloc (.cells #[.float .f32 h, .float .f32 x, .float .f32 y, .int .i8 (1 - s)] 28) = w' := by
  go_enter Try.func44, Try.ntmps44
  go_wp2
  refine bodyPost_ret (v := .agg #[.float .f32 h, .float .f32 x, .float .f32 y, .int .i8 (1 - s)]) (by simp [results, Try.results44, go_sem]; done) rfl ⟨rfl, rfl⟩
set_option maxHeartbeats 2000000 in
theorem turnTooth_impl (h x y : Nat) (s : Int) (hsl : -128 ≤ s) (hsu : s ≤ 127) (w : World) :
    Calls Try.prog 28 #[.agg #[.float .f32 h, .float .f32 x, .float .f32 y, .int .i8 s]] w fun e w' => e = .returned (turnA h x y s) ∧ Below w.heap.size w w' := by
  have hx1 := fun (w : World) => run_build (P := Try.prog) w 28 #[] #[.float .f32 0, .float .f32 0, .float .f32 0, .int .i8 0] (by kernel_rfl)
  cases hk : okTooth h x y s
  · go_enter Try.func28, Try.ntmps28
    go_wp2_with (go_at_call 13; refine (validTooth_implx _ _ _ _ hsl hsu _).mono ?_; rintro e w' ⟨rfl, rfl⟩)
    refine bodyPost_ret (v := .tuple #[zeroT, .int .i64 1]) (by simp only [results, Try.results28]; go_simp; rfl) rfl ⟨by simp [turnA, hk], ?_⟩
    (repeat (first | with_reducible exact Below.refl _ _ | with_reducible refine bset ?_ (by first | (simp; done) | (simp; omega) | omega) _ | with_reducible refine balloc ?_ _ | with_reducible refine bdrewN ?_ _ | with_reducible refine bdrew ?_ | with_reducible refine bstep ?_ (by assumption)))
  · have hsd : 0 ≤ s ∧ s ≤ 1 := by have := ok_side hk; omega
    go_enter Try.func28, Try.ntmps28
    go_wp2_with (first | (go_at_call 13; refine (validTooth_implx _ _ _ _ hsl hsu _).mono ?_; rintro e w' ⟨rfl, rfl⟩) | (go_at_call 44; refine (turned_any _ _ h x y s hsd.1 hsd.2 _ (by go_simp <;> omega) (by go_simp) (by go_simp) (by go_simp) (by go_simp)).mono ?_; rintro e w' ⟨rfl, rfl⟩))
    refine bodyPost_ret (v := .tuple #[.agg #[.float .f32 h, .float .f32 x, .float .f32 y, .int .i8 (1 - s)], .int .i64 0]) (by simp only [results, Try.results28]; go_simp; done) rfl ⟨by simp [turnA, hk], ?_⟩
    (repeat (first | with_reducible exact Below.refl _ _ | with_reducible refine bset ?_ (by first | (simp; done) | (simp; omega) | omega) _ | with_reducible refine balloc ?_ _ | with_reducible refine bdrewN ?_ _ | with_reducible refine bdrew ?_ | with_reducible refine bstep ?_ (by assumption)))
theorem turnA_ok {h x y : Nat} {s : Int} : ∃ h' x' y' s' c, turnA h x y s = .tuple #[.agg #[.float .f32 h', .float .f32 x', .float .f32 y', .int .i8 s'], .int .i64 c] := by
  unfold turnA zeroT; split <;> exact ⟨_, _, _, _, _, rfl⟩
theorem newA_ok {h x y : Nat} {s : Int} : ∃ h' x' y' s' c, newA h x y s = .tuple #[.agg #[.float .f32 h', .float .f32 x', .float .f32 y', .int .i8 s'], .int .i64 c] := by
  unfold newA zeroT; split <;> exact ⟨_, _, _, _, _, rfl⟩
set_option maxHeartbeats 1000000 in
theorem law_turnTooth (h x y : Nat) (s : Int) (_ : h < 4294967296) (_ : x < 4294967296) (_ : y < 4294967296) (hsl : -128 ≤ s) (hsu : s ≤ 127) (w : World) :
    Calls Try.prog 8 #[.agg #[.float .f32 h, .float .f32 x, .float .f32 y, .int .i8 s]] w fun e w' => e = .returned (.bool true) ∧ Below w.heap.size w w' := by
  obtain ⟨h', x', y', s', c, hr⟩ := turnA_ok (h := h) (x := x) (y := y) (s := s)
  have h1 := turnTooth_spec h x y s hsl hsu
  have h2 := turnTooth_impl h x y s hsl hsu
  rw [hr] at h1 h2
  have H1 := Lib.hid h1
  have H2 := Lib.hid h2
  clear hr h1 h2
  go_enter Try.func8, Try.ntmps8
  go_wp2_with (first | (go_at_call 12; refine (toTooth_x _ _ _ _ _).mono ?_; rintro e w' ⟨rfl, rfl⟩) | (go_at_call 27; refine (H1.out _).mono ?_; rintro e w2 ⟨rfl, hb2⟩; have hc2 := bc hb2; have hf2 := bf hb2; have hs2 := hb2.size; (try simp at hs2); (try have hz20 : w.heap.size < w2.heap.size := by omega); (try have hz21 : w.heap.size + 1 < w2.heap.size := by omega); (try have hz22 : w.heap.size + 1 + 1 < w2.heap.size := by omega); (try have hz23 : w.heap.size + 1 + 1 + 1 < w2.heap.size := by omega)) | (go_at_call 28; refine (H2.out _).mono ?_; rintro e w3 ⟨rfl, hb3⟩; have hc3 := bc hb3; have hf3 := bf hb3; have hs3 := hb3.size; (try simp at hs3); (try have hz30 : w.heap.size < w3.heap.size := by omega); (try have hz31 : w.heap.size + 1 < w3.heap.size := by omega); (try have hz32 : w.heap.size + 1 + 1 < w3.heap.size := by omega); (try have hz33 : w.heap.size + 1 + 1 + 1 < w3.heap.size := by omega); (try have hy320 : w2.heap.size < w3.heap.size := by omega); (try have hy321 : w2.heap.size + 1 < w3.heap.size := by omega)) | (go_at_call 21; refine (eqTooth_any _ _ _ _ _ _ _ rfl rfl rfl _).mono ?_; rintro e w4 ⟨rfl, hb4⟩; have hc4 := bc hb4; have hf4 := bf hb4; have hs4 := hb4.size; (try simp at hs4); (try have hz40 : w.heap.size < w4.heap.size := by omega); (try have hz41 : w.heap.size + 1 < w4.heap.size := by omega); (try have hz42 : w.heap.size + 1 + 1 < w4.heap.size := by omega); (try have hz43 : w.heap.size + 1 + 1 + 1 < w4.heap.size := by omega); (try have hy420 : w2.heap.size < w4.heap.size := by omega); (try have hy421 : w2.heap.size + 1 < w4.heap.size := by omega)))
  all_goals (go_ret; refine ⟨by simp, ?_⟩)
  all_goals (repeat (first | with_reducible exact Below.refl _ _ | with_reducible refine bset ?_ (by first | (simp; done) | (simp; omega) | omega) _ | with_reducible refine balloc ?_ _ | with_reducible refine bdrewN ?_ _ | with_reducible refine bdrew ?_ | with_reducible refine bstep ?_ (by assumption)))
set_option maxHeartbeats 1000000 in
theorem law_newTooth (h x y : Nat) (s : Int) (_ : h < 4294967296) (_ : x < 4294967296) (_ : y < 4294967296) (hsl : -128 ≤ s) (hsu : s ≤ 127) (w : World) :
    Calls Try.prog 6 #[.agg #[.float .f32 h, .float .f32 x, .float .f32 y, .int .i8 s]] w fun e w' => e = .returned (.bool true) ∧ Below w.heap.size w w' := by
  obtain ⟨h', x', y', s', c, hr⟩ := newA_ok (h := h) (x := x) (y := y) (s := s)
  have h1 := newTooth_spec h x y s hsl hsu
  have h2 := newTooth_impl h x y s hsl hsu
  rw [hr] at h1 h2
  have H1 := Lib.hid h1
  have H2 := Lib.hid h2
  clear hr h1 h2
  go_enter Try.func6, Try.ntmps6
  go_wp2_with (first | (go_at_call 12; refine (toTooth_x _ _ _ _ _).mono ?_; rintro e w' ⟨rfl, rfl⟩) | (go_at_call 19; refine (H1.out _).mono ?_; rintro e w2 ⟨rfl, hb2⟩; have hc2 := bc hb2; have hf2 := bf hb2; have hs2 := hb2.size; (try simp at hs2); (try have hz20 : w.heap.size < w2.heap.size := by omega); (try have hz21 : w.heap.size + 1 < w2.heap.size := by omega); (try have hz22 : w.heap.size + 1 + 1 < w2.heap.size := by omega); (try have hz23 : w.heap.size + 1 + 1 + 1 < w2.heap.size := by omega)) | (go_at_call 20; refine (H2.out _).mono ?_; rintro e w3 ⟨rfl, hb3⟩; have hc3 := bc hb3; have hf3 := bf hb3; have hs3 := hb3.size; (try simp at hs3); (try have hz30 : w.heap.size < w3.heap.size := by omega); (try have hz31 : w.heap.size + 1 < w3.heap.size := by omega); (try have hz32 : w.heap.size + 1 + 1 < w3.heap.size := by omega); (try have hz33 : w.heap.size + 1 + 1 + 1 < w3.heap.size := by omega); (try have hy320 : w2.heap.size < w3.heap.size := by omega); (try have hy321 : w2.heap.size + 1 < w3.heap.size := by omega)) | (go_at_call 21; refine (eqTooth_any _ _ _ _ _ _ _ rfl rfl rfl _).mono ?_; rintro e w4 ⟨rfl, hb4⟩; have hc4 := bc hb4; have hf4 := bf hb4; have hs4 := hb4.size; (try simp at hs4); (try have hz40 : w.heap.size < w4.heap.size := by omega); (try have hz41 : w.heap.size + 1 < w4.heap.size := by omega); (try have hz42 : w.heap.size + 1 + 1 < w4.heap.size := by omega); (try have hz43 : w.heap.size + 1 + 1 + 1 < w4.heap.size := by omega); (try have hy420 : w2.heap.size < w4.heap.size := by omega); (try have hy421 : w2.heap.size + 1 < w4.heap.size := by omega)))
  all_goals (go_ret; refine ⟨by simp, ?_⟩)
  all_goals (repeat (first | with_reducible exact Below.refl _ _ | with_reducible refine bset ?_ (by first | (simp; done) | (simp; omega) | omega) _ | with_reducible refine balloc ?_ _ | with_reducible refine bdrewN ?_ _ | with_reducible refine bdrew ?_ | with_reducible refine bstep ?_ (by assumption)))
end Go.Proofs.Ytegplbjgoodokaa
