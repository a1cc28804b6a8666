/- The text of a tooth, as both sides write it. -/
import Derived.Test.YtljcjgliddhgkaaDoorToothT
import Derived.Test.YtljcjgliddhgkaaDoorTooth4
namespace Go.Proofs.YtljcjgliddhgkaaDoor
open Go.RowKit Ieee
open Go.Proofs.YtljcjgliddhgkaaDoorW.PrintWords
set_option maxRecDepth 100000
attribute [local irreducible] wpRel hexL cn
def dS (s : Int) : UInt8 := if s = 1 then 49 else 48
def txT (h x y : Nat) (s : Int) : List UInt8 := hexL (cn h) ++ 44 :: hexL (cn x) ++ 44 :: hexL (cn y) ++ [44, dS s]
theorem ba_append (a b : Array UInt8) : (⟨a⟩ : ByteArray) ++ ⟨b⟩ = ⟨a ++ b⟩ := by
  apply ByteArray.ext
  rw [ByteArray.data_append]
theorem ba_size (l : Array UInt8) : (⟨l⟩ : ByteArray).size = l.size := rfl
theorem decimalS (s : Int) (hs : s = 0 ∨ s = 1) (w : World) : Calls Tryd.prog 55 #[.int .i64 s] w fun e w' => e = .returned (.string ⟨#[dS s]⟩) ∧ Below w.heap.size w w' := by
  rcases hs with rfl | rfl
  · exact decimalS_0 w
  · exact decimalS_1 w
theorem decimalSw (s : Int) (hs : s = 0 ∨ s = 1) (w : World) : Calls Tryd.prog 55 #[.int .i64 (IntKind.i64.wrap s)] w fun e w' => e = .returned (.string ⟨#[dS s]⟩) ∧ Below w.heap.size w w' := by
  have e : IntKind.i64.wrap s = s := by rcases hs with rfl | rfl <;> decide
  rw [e]
  exact decimalS s hs w
theorem decimalI (s : Int) (hs : s = 0 ∨ s = 1) (w : World) : Calls Tryd.prog 29 #[.int .i64 s] w fun e w' => e = .returned (.string ⟨#[dS s]⟩) ∧ Below w.heap.size w w' := by
  rcases hs with rfl | rfl
  · refine (decimal_any 0 (by decide) w).mono ?_
    rintro e w' ⟨rfl, rfl⟩
    exact ⟨by rw [decDigits_0]; rfl, Below.refl _ _⟩
  · refine (decimal_any 1 (by decide) w).mono ?_
    rintro e w' ⟨rfl, rfl⟩
    exact ⟨by rw [decDigits_1]; rfl, Below.refl _ _⟩
set_option maxHeartbeats 400000 in
theorem l06Text_any (h x y : Nat) (s : Int) (h1 : h < 4294967296) (h2 : x < 4294967296) (h3 : y < 4294967296) (hs : s = 0 ∨ s = 1) (w : World) :
    Calls Tryd.prog 26 #[.agg #[.float .f32 h, .float .f32 x, .float .f32 y, .int .i8 s]] w fun e w' => e = .returned (.string ⟨(txT h x y s).toArray⟩) ∧ Below w.heap.size w w' := by
  have HH := Lib.hid (And.intro h1 (And.intro h2 h3))
  clear h1 h2 h3
  go_enter Tryd.func26, Tryd.ntmps26
  go_wp2
  refine region_below (DAt [(5, .string ⟨(hexL (cn h)).toArray⟩), (10, .string ⟨(hexL (cn x)).toArray⟩), (16, .string ⟨(hexL (cn y)).toArray⟩), (22, .string ⟨#[dS s]⟩)]) (by kernel_rfl) (by kernel_rfl) ?_
  (refine wpRel_plain rfl (fun K hK => ?_); intro w' hb'; have hc' := bc (Bel.out hb'); go_simp; (first | refine hK _ ?_ | refine ⟨(by first | exact hb' | exact Bel.drewN hb' _ | exact Bel.alloc hb' _), hK _ ?_⟩); clear hK K hb' hc')
  (refine wpRel_plain rfl (fun K hK => ?_); intro w' hb'; have hc' := bc (Bel.out hb'); go_simp; (first | refine hK _ ?_ | refine ⟨(by first | exact hb' | exact Bel.drewN hb' _ | exact Bel.alloc hb' _), hK _ ?_⟩); clear hK K hb' hc')
  (refine wpRel_plain rfl (fun K hK => ?_); intro w' hb'; have hc' := bc (Bel.out hb'); go_simp; refine ⟨?_, fun v hv => ?_⟩; (go_at_call 54; refine (l01Hex_any h (cn h) ⟨rfl, HH.out.1⟩ _).mono ?_; rintro e w'' ⟨rfl, hk⟩; exact ⟨_, rfl, rfl, Bel.step hb' hk⟩); (first | (obtain rfl : v = _ := hv) | (obtain rfl : v = _ := (Option.some.inj hv).symm)); (refine hK _ ?_; clear hK K hb' hc'))
  (refine wpRel_plain rfl (fun K hK => ?_); intro w' hb'; have hc' := bc (Bel.out hb'); go_simp; rw [if_neg (by first | (simp [hexL_length, ba_append, ba_size]; done) | (simp [hexL_length, ba_append, ba_size]; omega))]; refine ⟨hb', hK _ ?_⟩; clear hK K hb' hc')
  (refine wpRel_plain rfl (fun K hK => ?_); intro w' hb'; have hc' := bc (Bel.out hb'); go_simp; (first | refine hK _ ?_ | refine ⟨(by first | exact hb' | exact Bel.drewN hb' _ | exact Bel.alloc hb' _), hK _ ?_⟩); clear hK K hb' hc')
  (refine wpRel_plain rfl (fun K hK => ?_); intro w' hb'; have hc' := bc (Bel.out hb'); go_simp; (first | refine hK _ ?_ | refine ⟨(by first | exact hb' | exact Bel.drewN hb' _ | exact Bel.alloc hb' _), hK _ ?_⟩); clear hK K hb' hc')
  (refine wpRel_plain rfl (fun K hK => ?_); intro w' hb'; have hc' := bc (Bel.out hb'); go_simp; (first | refine hK _ ?_ | refine ⟨(by first | exact hb' | exact Bel.drewN hb' _ | exact Bel.alloc hb' _), hK _ ?_⟩); clear hK K hb' hc')
  (refine wpRel_plain rfl (fun K hK => ?_); intro w' hb'; have hc' := bc (Bel.out hb'); go_simp; refine ⟨?_, fun v hv => ?_⟩; (go_at_call 54; refine (l01Hex_any x (cn x) ⟨rfl, HH.out.2.1⟩ _).mono ?_; rintro e w'' ⟨rfl, hk⟩; exact ⟨_, rfl, rfl, Bel.step hb' hk⟩); (first | (obtain rfl : v = _ := hv) | (obtain rfl : v = _ := (Option.some.inj hv).symm)); (refine hK _ ?_; clear hK K hb' hc'))
  (refine wpRel_plain rfl (fun K hK => ?_); intro w' hb'; have hc' := bc (Bel.out hb'); go_simp; rw [if_neg (by first | (simp [hexL_length, ba_append, ba_size]; done) | (simp [hexL_length, ba_append, ba_size]; omega))]; refine ⟨hb', hK _ ?_⟩; clear hK K hb' hc')
  (refine wpRel_plain rfl (fun K hK => ?_); intro w' hb'; have hc' := bc (Bel.out hb'); go_simp; rw [if_neg (by first | (simp [hexL_length, ba_append, ba_size]; done) | (simp [hexL_length, ba_append, ba_size]; omega))]; refine ⟨hb', hK _ ?_⟩; clear hK K hb' hc')
  (refine wpRel_plain rfl (fun K hK => ?_); intro w' hb'; have hc' := bc (Bel.out hb'); go_simp; (first | refine hK _ ?_ | refine ⟨(by first | exact hb' | exact Bel.drewN hb' _ | exact Bel.alloc hb' _), hK _ ?_⟩); clear hK K hb' hc')
  (refine wpRel_plain rfl (fun K hK => ?_); intro w' hb'; have hc' := bc (Bel.out hb'); go_simp; (first | refine hK _ ?_ | refine ⟨(by first | exact hb' | exact Bel.drewN hb' _ | exact Bel.alloc hb' _), hK _ ?_⟩); clear hK K hb' hc')
  (refine wpRel_plain rfl (fun K hK => ?_); intro w' hb'; have hc' := bc (Bel.out hb'); go_simp; (first | refine hK _ ?_ | refine ⟨(by first | exact hb' | exact Bel.drewN hb' _ | exact Bel.alloc hb' _), hK _ ?_⟩); clear hK K hb' hc')
  (refine wpRel_plain rfl (fun K hK => ?_); intro w' hb'; have hc' := bc (Bel.out hb'); go_simp; refine ⟨?_, fun v hv => ?_⟩; (go_at_call 54; refine (l01Hex_any y (cn y) ⟨rfl, HH.out.2.2⟩ _).mono ?_; rintro e w'' ⟨rfl, hk⟩; exact ⟨_, rfl, rfl, Bel.step hb' hk⟩); (first | (obtain rfl : v = _ := hv) | (obtain rfl : v = _ := (Option.some.inj hv).symm)); (refine hK _ ?_; clear hK K hb' hc'))
  (refine wpRel_plain rfl (fun K hK => ?_); intro w' hb'; have hc' := bc (Bel.out hb'); go_simp; rw [if_neg (by first | (simp [hexL_length, ba_append, ba_size]; done) | (simp [hexL_length, ba_append, ba_size]; omega))]; refine ⟨hb', hK _ ?_⟩; clear hK K hb' hc')
  (refine wpRel_plain rfl (fun K hK => ?_); intro w' hb'; have hc' := bc (Bel.out hb'); go_simp; rw [if_neg (by first | (simp [hexL_length, ba_append, ba_size]; done) | (simp [hexL_length, ba_append, ba_size]; omega))]; refine ⟨hb', hK _ ?_⟩; clear hK K hb' hc')
  (refine wpRel_plain rfl (fun K hK => ?_); intro w' hb'; have hc' := bc (Bel.out hb'); go_simp; (first | refine hK _ ?_ | refine ⟨(by first | exact hb' | exact Bel.drewN hb' _ | exact Bel.alloc hb' _), hK _ ?_⟩); clear hK K hb' hc')
  (refine wpRel_plain rfl (fun K hK => ?_); intro w' hb'; have hc' := bc (Bel.out hb'); go_simp; (first | refine hK _ ?_ | refine ⟨(by first | exact hb' | exact Bel.drewN hb' _ | exact Bel.alloc hb' _), hK _ ?_⟩); clear hK K hb' hc')
  (refine wpRel_plain rfl (fun K hK => ?_); intro w' hb'; have hc' := bc (Bel.out hb'); go_simp; (first | refine hK _ ?_ | refine ⟨(by first | exact hb' | exact Bel.drewN hb' _ | exact Bel.alloc hb' _), hK _ ?_⟩); clear hK K hb' hc')
  (refine wpRel_plain rfl (fun K hK => ?_); intro w' hb'; have hc' := bc (Bel.out hb'); go_simp; refine ⟨?_, fun v hv => ?_⟩; (go_at_call 55; refine (decimalSw s hs _).mono ?_; rintro e w'' ⟨rfl, hk⟩; exact ⟨_, rfl, rfl, Bel.step hb' hk⟩); (first | (obtain rfl : v = _ := hv) | (obtain rfl : v = _ := (Option.some.inj hv).symm)); (refine hK _ ?_; clear hK K hb' hc'))
  (refine wpRel_plain rfl (fun K hK => ?_); intro w' hb'; have hc' := bc (Bel.out hb'); go_simp; rw [if_neg (by first | (simp [hexL_length, ba_append, ba_size]; done) | (simp [hexL_length, ba_append, ba_size]; omega))]; refine ⟨hb', hK _ ?_⟩; clear hK K hb' hc')
  (refine wpRel_plain rfl (fun K hK => ?_); intro w' hb'; have hc' := bc (Bel.out hb'); go_simp; (first | refine hK _ ?_ | refine ⟨(by first | exact hb' | exact Bel.drewN hb' _ | exact Bel.alloc hb' _), hK _ ?_⟩); clear hK K hb' hc')
  (refine wpRel_nil ?_; intro w1 hb1; replace hb1 := Bel.out hb1; have hc1 := bc hb1; have hf1 := bf hb1; have hs1 := hb1.size; (try simp at hs1); (try have hz10 : w.heap.size < w1.heap.size := by omega); (try have hz11 : w.heap.size + 1 < w1.heap.size := by omega); (try have hz12 : w.heap.size + 1 + 1 < w1.heap.size := by omega); (try have hz13 : w.heap.size + 1 + 1 + 1 < w1.heap.size := by omega))
  go_wp2
  go_ret
  refine ⟨?_, ?_⟩
  · simp [ba_append, txT]
  · (repeat (first | with_reducible exact Below.refl _ _ | with_reducible refine bset ?_ (by first | (simp; done) | (simp; omega) | omega) _ | with_reducible refine balloc ?_ _ | with_reducible refine bdrewN ?_ _ | with_reducible refine bdrew ?_ | with_reducible refine bstep ?_ (by assumption)))
end Go.Proofs.YtljcjgliddhgkaaDoor
