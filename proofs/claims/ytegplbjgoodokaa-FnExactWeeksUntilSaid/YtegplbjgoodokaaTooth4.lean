/- What is worn on the side that is used; teeth turned and made new: contracts and laws. -/
import Derived.Test.YtegplbjgoodokaaTooth2
namespace Go.Proofs.Ytegplbjgoodokaa
open Go.RowKit Ieee

def wearV (x y : Nat) (s : Int) : Nat := if s = 0 then x else y
theorem ok_side {h x y : Nat} {s : Int} (hk : okTooth h x y s = true) : s = 0 ∨ s = 1 := by
  unfold okTooth iin at hk
  simp at hk
  omega
/-- The answers of WearOf, of TurnTooth, of NewTooth. -/
def wearA (h x y : Nat) (s : Int) : Value := if okTooth h x y s = true then .tuple #[.float .f32 (wearV x y s), .int .i64 0] else .tuple #[.float .f32 0, .int .i64 1]
def zeroT : Value := .agg #[.float .f32 0, .float .f32 0, .float .f32 0, .int .i8 0]
def turnA (h x y : Nat) (s : Int) : Value := if okTooth h x y s = true then .tuple #[.agg #[.float .f32 h, .float .f32 x, .float .f32 y, .int .i8 (1 - s)], .int .i64 0] else .tuple #[zeroT, .int .i64 1]
def newA (h x y : Nat) (s : Int) : Value := if okTooth h x y s = true then .tuple #[.agg #[.float .f32 h, .float .f32 0, .float .f32 0, .int .i8 0], .int .i64 0] else .tuple #[zeroT, .int .i64 1]

set_option maxHeartbeats 1000000 in
theorem wear_any (b off : Nat) (x y : Nat) (s : Int) (hs : s = 0 ∨ s = 1) (w : World)
    (c1 : w.cell? ⟨b, off + 1, none⟩ = some (.float .f32 x)) (c2 : w.cell? ⟨b, off + 2, none⟩ = some (.float .f32 y)) (c3 : w.cell? ⟨b, off + 3, none⟩ = some (.int .i8 s)) :
    Calls Try.prog 40 #[.pointer (some ⟨b, off, none⟩)] w fun e w' => e = .returned (.float .f32 (wearV x y s)) ∧ Drew w w' := by
  rcases hs with rfl | rfl
  all_goals
    go_enter Try.func40, Try.ntmps40
    go_wp2
    first | refine region_drewN (DIs (.bool true)) (by kernel_rfl) (by kernel_rfl) ?_ | refine region_drew (DIs (.bool true)) (by kernel_rfl) (by kernel_rfl) ?_
    repeat (refine wpRel_plain rfl (fun K hK => ?_); intro w' hw'; obtain ⟨n', rfl⟩ := hw'; go_simp; refine ⟨Drew.mk _ _, hK _ ?_⟩; clear hK K n')
    (refine wpRel_nil ?_; intro w' hw'; obtain ⟨nq, rfl⟩ := hw')
    go_wp2
    go_ret
    exact ⟨by simp [wearV], Drew.mk _ _⟩

set_option maxHeartbeats 1000000 in
theorem wearOf_spec (h x y : Nat) (s : Int) (hsl : -128 ≤ s) (hsu : s ≤ 127) (w : World) :
    Calls Try.prog 16 #[.agg #[.float .f32 h, .float .f32 x, .float .f32 y, .int .i8 s]] w fun e w' => e = .returned (wearA h x y s) ∧ Below w.heap.size w w' := by
  cases hk : okTooth h x y s
  · go_enter Try.func16, Try.ntmps16
    go_wp2_with (go_at_call 33; refine (okTooth_spec _ _ _ _ hsl hsu _).mono ?_; rintro e w1 ⟨rfl, hb1⟩; have hc1 := bc hb1; have hf1 := bf hb1; have hs1 := hb1.size; (try simp at hs1); (try have hz10 : w.heap.size < w1.heap.size := by omega); (try have hz11 : w.heap.size + 1 < w1.heap.size := by omega); (try have hz12 : w.heap.size + 1 + 1 < w1.heap.size := by omega); (try have hz13 : w.heap.size + 1 + 1 + 1 < w1.heap.size := by omega))
    all_goals (go_ret2; refine ⟨by simp [wearA, hk], ?_⟩)
    all_goals (repeat (first | with_reducible exact Below.refl _ _ | with_reducible refine bset ?_ (by first | (simp; done) | (simp; omega) | omega) _ | with_reducible refine balloc ?_ _ | with_reducible refine bdrewN ?_ _ | with_reducible refine bdrew ?_ | with_reducible refine bstep ?_ (by assumption)))
  · rcases ok_side hk with rfl | rfl
    all_goals
      go_enter Try.func16, Try.ntmps16
      go_wp2_with (go_at_call 33; refine (okTooth_spec _ _ _ _ hsl hsu _).mono ?_; rintro e w1 ⟨rfl, hb1⟩; have hc1 := bc hb1; have hf1 := bf hb1; have hs1 := hb1.size; (try simp at hs1); (try have hz10 : w.heap.size < w1.heap.size := by omega); (try have hz11 : w.heap.size + 1 < w1.heap.size := by omega); (try have hz12 : w.heap.size + 1 + 1 < w1.heap.size := by omega); (try have hz13 : w.heap.size + 1 + 1 + 1 < w1.heap.size := by omega))
      all_goals (go_ret2; refine ⟨by simp [wearA, wearV, hk], ?_⟩)
      all_goals (repeat (first | with_reducible exact Below.refl _ _ | with_reducible refine bset ?_ (by first | (simp; done) | (simp; omega) | omega) _ | with_reducible refine balloc ?_ _ | with_reducible refine bdrewN ?_ _ | with_reducible refine bdrew ?_ | with_reducible refine bstep ?_ (by assumption)))
set_option maxHeartbeats 1000000 in
theorem wearOf_impl (h x y : Nat) (s : Int) (hsl : -128 ≤ s) (hsu : s ≤ 127) (w : World) :
    Calls Try.prog 17 #[.agg #[.float .f32 h, .float .f32 x, .float .f32 y, .int .i8 s]] w fun e w' => e = .returned (wearA h x y s) ∧ Below w.heap.size w w' := by
  cases hk : okTooth h x y s
  · go_enter Try.func17, Try.ntmps17
    go_wp2_with (go_at_call 13; refine (validTooth_impl _ _ _ _ hsl hsu _).mono ?_; rintro e w1 ⟨rfl, hb1⟩; have hc1 := bc hb1; have hf1 := bf hb1; have hs1 := hb1.size; (try simp at hs1); (try have hz10 : w.heap.size < w1.heap.size := by omega); (try have hz11 : w.heap.size + 1 < w1.heap.size := by omega); (try have hz12 : w.heap.size + 1 + 1 < w1.heap.size := by omega); (try have hz13 : w.heap.size + 1 + 1 + 1 < w1.heap.size := by omega))
    all_goals (go_ret2; refine ⟨by simp [wearA, hk], ?_⟩)
    all_goals (repeat (first | with_reducible exact Below.refl _ _ | with_reducible refine bset ?_ (by first | (simp; done) | (simp; omega) | omega) _ | with_reducible refine balloc ?_ _ | with_reducible refine bdrewN ?_ _ | with_reducible refine bdrew ?_ | with_reducible refine bstep ?_ (by assumption)))
  · have hsd := ok_side hk
    go_enter Try.func17, Try.ntmps17
    go_wp2_with (first | (go_at_call 13; refine (validTooth_impl _ _ _ _ hsl hsu _).mono ?_; rintro e w1 ⟨rfl, hb1⟩; have hc1 := bc hb1; have hf1 := bf hb1; have hs1 := hb1.size; (try simp at hs1); (try have hz10 : w.heap.size < w1.heap.size := by omega); (try have hz11 : w.heap.size + 1 < w1.heap.size := by omega); (try have hz12 : w.heap.size + 1 + 1 < w1.heap.size := by omega); (try have hz13 : w.heap.size + 1 + 1 + 1 < w1.heap.size := by omega)) | (go_at_call 40; refine (wear_any _ _ x y s hsd _ (by go_simp) (by go_simp) (by go_simp)).mono ?_; rintro e w' ⟨rfl, n2, rfl⟩))
    all_goals (go_ret2; refine ⟨by simp [wearA, hk], ?_⟩)
    all_goals (repeat (first | with_reducible exact Below.refl _ _ | with_reducible refine bset ?_ (by first | (simp; done) | (simp; omega) | omega) _ | with_reducible refine balloc ?_ _ | with_reducible refine bdrewN ?_ _ | with_reducible refine bdrew ?_ | with_reducible refine bstep ?_ (by assumption)))
theorem wearA_ok {h x y : Nat} {s : Int} : ∃ r c, wearA h x y s = .tuple #[.float .f32 r, .int .i64 c] := by
  unfold wearA; split <;> exact ⟨_, _, rfl⟩
set_option maxHeartbeats 1000000 in
theorem law_wearOf (h x y : Nat) (s : Int) (_ : h < 4294967296) (_ : x < 4294967296) (_ : y < 4294967296) (hsl : -128 ≤ s) (hsu : s ≤ 127) (w : World) :
    Calls Try.prog 5 #[.agg #[.float .f32 h, .float .f32 x, .float .f32 y, .int .i8 s]] w fun e w' => e = .returned (.bool true) ∧ Below w.heap.size w w' := by
  obtain ⟨r, c, hr⟩ := wearA_ok (h := h) (x := x) (y := y) (s := s)
  have h1 := wearOf_spec h x y s hsl hsu
  have h2 := wearOf_impl h x y s hsl hsu
  rw [hr] at h1 h2
  have H1 := Lib.hid h1
  have H2 := Lib.hid h2
  clear hr h1 h2
  go_enter Try.func5, Try.ntmps5
  go_wp2_with (first | (go_at_call 12; refine (toTooth_any _ _ _ _ _).mono ?_; rintro e w1 ⟨rfl, hb1⟩; have hc1 := bc hb1; have hf1 := bf hb1; have hs1 := hb1.size; (try simp at hs1); (try have hz10 : w.heap.size < w1.heap.size := by omega); (try have hz11 : w.heap.size + 1 < w1.heap.size := by omega); (try have hz12 : w.heap.size + 1 + 1 < w1.heap.size := by omega); (try have hz13 : w.heap.size + 1 + 1 + 1 < w1.heap.size := by omega)) | (go_at_call 16; refine (H1.out _).mono ?_; rintro e w2 ⟨rfl, hb2⟩; have hc2 := bc hb2; have hf2 := bf hb2; have hs2 := hb2.size; (try simp at hs2); (try have hz20 : w.heap.size < w2.heap.size := by omega); (try have hz21 : w.heap.size + 1 < w2.heap.size := by omega); (try have hz22 : w.heap.size + 1 + 1 < w2.heap.size := by omega); (try have hz23 : w.heap.size + 1 + 1 + 1 < w2.heap.size := by omega)) | (go_at_call 17; refine (H2.out _).mono ?_; rintro e w3 ⟨rfl, hb3⟩; have hc3 := bc hb3; have hf3 := bf hb3; have hs3 := hb3.size; (try simp at hs3); (try have hz30 : w.heap.size < w3.heap.size := by omega); (try have hz31 : w.heap.size + 1 < w3.heap.size := by omega); (try have hz32 : w.heap.size + 1 + 1 < w3.heap.size := by omega); (try have hz33 : w.heap.size + 1 + 1 + 1 < w3.heap.size := by omega); (try have hy320 : w2.heap.size < w3.heap.size := by omega); (try have hy321 : w2.heap.size + 1 < w3.heap.size := by omega)) | (refine wpList_conv64 (o := ⟨some 20, _, _, _, _, _⟩) rfl rfl (by kernel_rfl) Try.underlying36 rfl ?_; intro r20 n20 h20) | (refine wpList_conv64 (o := ⟨some 22, _, _, _, _, _⟩) rfl rfl (by kernel_rfl) Try.underlying36 rfl ?_; intro r22 n22 h22) | (go_at_call 18; refine (sameFloat_any _ _ h20.2 (wide_same rfl h20 h22) _).mono ?_; rintro e w' ⟨rfl, rfl⟩))
  all_goals (go_ret; refine ⟨by simp, ?_⟩)
  all_goals (repeat (first | with_reducible exact Below.refl _ _ | with_reducible refine bset ?_ (by first | (simp; done) | (simp; omega) | omega) _ | with_reducible refine balloc ?_ _ | with_reducible refine bdrewN ?_ _ | with_reducible refine bdrew ?_ | with_reducible refine bstep ?_ (by assumption)))
end Go.Proofs.Ytegplbjgoodokaa
