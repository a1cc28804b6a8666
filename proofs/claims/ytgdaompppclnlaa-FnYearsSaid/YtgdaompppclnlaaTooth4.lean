/- What is worn on the side that is used; teeth turned and made new: contracts and laws. Teeth turned and made new: contracts and laws. -/
import Derived.Test.YtgdaompppclnlaaTooth2
namespace Go.Proofs.Ytgdaompppclnlaa
open Go.RowKit Ieee
set_option maxRecDepth 100000

def wearV (x y : Nat) (s : Int) : Nat := if s = 0 then x else y
theorem ok_side {h x y : Nat} {s : Int} (hk : okTooth h x y s = true) : s = 0 ∨ s = 1 := by
  unfold okTooth iin at hk
  simp at hk
  omega
/-- The answers of WearOf, of TurnTooth, of NewTooth. -/
def wearA (h x y : Nat) (s : Int) : Value := if okTooth h x y s = true then .tuple #[.float .f32 (wearV x y s), .int .i64 0] else .tuple #[.float .f32 0, .int .i64 1]
def zeroT : Value := .agg #[.float .f32 0, .float .f32 0, .float .f32 0, .int .i8 0]
def turnA (h x y : Nat) (s : Int) : Value := if okTooth h x y s = true then .tuple #[.agg #[.float .f32 h, .float .f32 x, .float .f32 y, .int .i8 (1 - s)], .int .i64 0] else .tuple #[zeroT, .int .i64 1]
def newA (h x y : Nat) (s : Int) : Value := if okTooth h x y s = true then .tuple #[.agg #[.float .f32 h, .float .f32 0, .float .f32 0, .int .i8 0], .int .i64 0] else .tuple #[zeroT, .int .i64 1]

set_option maxHeartbeats 1000000 in
theorem wear_any (b off : Nat) (x y : Nat) (s : Int) (hs : s = 0 ∨ s = 1) (w : World)
    (c1 : w.cell? ⟨b, off + 1, none⟩ = some (.float .f32 x)) (c2 : w.cell? ⟨b, off + 2, none⟩ = some (.float .f32 y)) (c3 : w.cell? ⟨b, off + 3, none⟩ = some (.int .i8 s)) :
    Calls Try.prog 37 #[.pointer (some ⟨b, off, none⟩)] w fun e w' => e = .returned (.float .f32 (wearV x y s)) ∧ Drew w w' := by
  rcases hs with rfl | rfl
  all_goals
    go_enter Try.func37, Try.ntmps37
    go_wp2
    first | refine region_drewN (DIs (.bool true)) (by kernel_rfl) (by kernel_rfl) ?_ | refine region_drew (DIs (.bool true)) (by kernel_rfl) (by kernel_rfl) ?_
    repeat (refine wpRel_plain rfl (fun K hK => ?_); intro w' hw'; obtain ⟨n', rfl⟩ := hw'; go_simp; refine ⟨Drew.mk _ _, hK _ ?_⟩; clear hK K n')
    (refine wpRel_nil ?_; intro w' hw'; obtain ⟨nq, rfl⟩ := hw')
    go_wp2
    go_ret
    exact ⟨by simp [wearV], Drew.mk _ _⟩

theorem wearA_ok {h x y : Nat} {s : Int} : ∃ r c, wearA h x y s = .tuple #[.float .f32 r, .int .i64 c] := by
  unfold wearA; split <;> exact ⟨_, _, rfl⟩
end Go.Proofs.Ytgdaompppclnlaa
namespace Go.Proofs.Ytgdaompppclnlaa
open Go.RowKit Ieee
set_option maxRecDepth 100000

theorem okTooth_specx (h x y : Nat) (s : Int) (hsl : -128 ≤ s) (hsu : s ≤ 127) (w : World) :
    Calls Try.prog 54 #[.agg #[.float .f32 h, .float .f32 x, .float .f32 y, .int .i8 s]] w fun e w' => e = .returned (.bool (okTooth h x y s)) ∧ w.alloc (.cells #[.float .f32 h, .float .f32 x, .float .f32 y, .int .i8 s] 44) = w' := by
  go_enter Try.func54, Try.ntmps54
  go_wp2_with (first | (go_at_call 32; refine (part_any _ _).mono ?_; rintro e w' ⟨rfl, rfl⟩) | (go_at_call 67; refine (l00In_any _ _ _ _).mono ?_; rintro e w' ⟨rfl, rfl⟩))
  all_goals (go_ret; refine ⟨by simp_all [okTooth, fin], rfl⟩)
theorem validTooth_implx (h x y : Nat) (s : Int) (hsl : -128 ≤ s) (hsu : s ≤ 127) (w : World) :
    Calls Try.prog 46 #[.agg #[.float .f32 h, .float .f32 x, .float .f32 y, .int .i8 s]] w fun e w' => e = .returned (.bool (okTooth h x y s)) ∧ w.alloc (.cells #[.float .f32 h, .float .f32 x, .float .f32 y, .int .i8 s] 44) = w' := by
  go_enter Try.func46, Try.ntmps46
  go_wp2_with (first | (go_at_call 47; refine (between_any _ _ _ _).mono ?_; rintro e w' ⟨rfl, rfl⟩) | (go_at_call 26; refine (isPart_any _ _).mono ?_; rintro e w' ⟨rfl, rfl⟩) | (go_at_call 61; refine (within_any _ _ _ _).mono ?_; rintro e w' ⟨rfl, rfl⟩))
  all_goals (go_ret; refine ⟨by simp_all [okTooth, fin], rfl⟩)
set_option maxHeartbeats 2000000 in
theorem turned_any (b off : Nat) (h x y : Nat) (s : Int) (hs0 : 0 ≤ s) (hs1 : s ≤ 1) (w : World) (hlt : b < w.heap.size)
    (c0 : w.cell? ⟨b, off, none⟩ = some (.float .f32 h)) (c1 : w.cell? ⟨b, off + 1, none⟩ = some (.float .f32 x)) (c2 : w.cell? ⟨b, off + 2, none⟩ = some (.float .f32 y)) (c3 : w.cell? ⟨b, off + 3, none⟩ = some (.int .i8 s)) :
    Calls Try.prog 49 #[.pointer (some ⟨b, off, none⟩)] w fun e w' => e = .returned (.agg #[.float .f32 h, .float .f32 x, .float .f32 y, .int .i8 (1 - s)]) ∧ (w.alloc (.cells #[.float .f32 h, .float .f32 x, .float .f32 y, .int .i8 (1 - s)] 44)).alloc (.cells #[.float .f32 h, .float .f32 x, .float .f32 y, .int .i8 (1 - s)] 44) = w' := by
  go_enter Try.func49, Try.ntmps49
  go_wp2
  refine bodyPost_ret (v := .agg #[.float .f32 h, .float .f32 x, .float .f32 y, .int .i8 (1 - s)]) (by simp [results, Try.results49, go_sem]; done) rfl ⟨rfl, rfl⟩
theorem turnA_ok {h x y : Nat} {s : Int} : ∃ h' x' y' s' c, turnA h x y s = .tuple #[.agg #[.float .f32 h', .float .f32 x', .float .f32 y', .int .i8 s'], .int .i64 c] := by
  unfold turnA zeroT; split <;> exact ⟨_, _, _, _, _, rfl⟩
theorem newA_ok {h x y : Nat} {s : Int} : ∃ h' x' y' s' c, newA h x y s = .tuple #[.agg #[.float .f32 h', .float .f32 x', .float .f32 y', .int .i8 s'], .int .i64 c] := by
  unfold newA zeroT; split <;> exact ⟨_, _, _, _, _, rfl⟩
end Go.Proofs.Ytgdaompppclnlaa
