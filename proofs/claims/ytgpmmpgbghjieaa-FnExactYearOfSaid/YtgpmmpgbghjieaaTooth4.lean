/- What is worn on the side that is used; teeth turned and made new: contracts and laws. -/
import Derived.Test.YtgpmmpgbghjieaaTooth2
namespace Go.Proofs.Ytgpmmpgbghjieaa
open Go.RowKit Ieee
set_option maxRecDepth 100000

def wearV (x y : Nat) (s : Int) : Nat := if s = 0 then x else y
theorem ok_side {h x y : Nat} {s : Int} (hk : okTooth h x y s = true) : s = 0 ∨ s = 1 := by
  unfold okTooth iin at hk
  simp at hk
  omega
/-- The answers of WearOf, of TurnTooth, of NewTooth. -/
def wearA (h x y : Nat) (s : Int) : Value := if okTooth h x y s = true then .tuple #[.float .f32 (wearV x y s), .int .i64 0] else .tuple #[.float .f32 0, .int .i64 1]
def zeroT : Value := .agg #[.float .f32 0, .float .f32 0, .float .f32 0, .int .i8 0]
def turnA (h x y : Nat) (s : Int) : Value := if okTooth h x y s = true then .tuple #[.agg #[.float .f32 h, .float .f32 x, .float .f32 y, .int .i8 (1 - s)], .int .i64 0] else .tuple #[zeroT, .int .i64 1]
def newA (h x y : Nat) (s : Int) : Value := if okTooth h x y s = true then .tuple #[.agg #[.float .f32 h, .float .f32 0, .float .f32 0, .int .i8 0], .int .i64 0] else .tuple #[zeroT, .int .i64 1]

set_option maxHeartbeats 1000000 in
theorem wear_any (b off : Nat) (x y : Nat) (s : Int) (hs : s = 0 ∨ s = 1) (w : World)
    (c1 : w.cell? ⟨b, off + 1, none⟩ = some (.float .f32 x)) (c2 : w.cell? ⟨b, off + 2, none⟩ = some (.float .f32 y)) (c3 : w.cell? ⟨b, off + 3, none⟩ = some (.int .i8 s)) :
    Calls Try.prog 45 #[.pointer (some ⟨b, off, none⟩)] w fun e w' => e = .returned (.float .f32 (wearV x y s)) ∧ Drew w w' := by
  rcases hs with rfl | rfl
  all_goals
    go_enter Try.func45, Try.ntmps45
    go_wp2
    first | refine region_drewN (DIs (.bool true)) (by kernel_rfl) (by kernel_rfl) ?_ | refine region_drew (DIs (.bool true)) (by kernel_rfl) (by kernel_rfl) ?_
    repeat (refine wpRel_plain rfl (fun K hK => ?_); intro w' hw'; obtain ⟨n', rfl⟩ := hw'; go_simp; refine ⟨Drew.mk _ _, hK _ ?_⟩; clear hK K n')
    (refine wpRel_nil ?_; intro w' hw'; obtain ⟨nq, rfl⟩ := hw')
    go_wp2
    go_ret
    exact ⟨by simp [wearV], Drew.mk _ _⟩

theorem wearA_ok {h x y : Nat} {s : Int} : ∃ r c, wearA h x y s = .tuple #[.float .f32 r, .int .i64 c] := by
  unfold wearA; split <;> exact ⟨_, _, rfl⟩
end Go.Proofs.Ytgpmmpgbghjieaa
