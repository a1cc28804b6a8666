/- Valid trains: the reference's and the program's test. -/
import Derived.Test.YtgdaompppclnlaaPair
namespace Go.Proofs.Ytgdaompppclnlaa
open Go.RowKit Ieee
open Go.Proofs.YtgdaompppclnlaaW.PrintWords
set_option maxRecDepth 100000

def pairB (a b : Int) (x : Nat) : Bool := iin a 6 200 && iin b 6 200 && part x
def pairOk (p : Int × Int × Nat) : Bool := pairB p.1 p.2.1 p.2.2
def trainOk (l : List (Int × Int × Nat)) : Bool := iin l.length 1 8 && l.all pairOk
theorem fle_vr {r x c : Nat} (h : FV r x) (hc : cn c = c) : fle c r = fle c x := by rw [← fle_cn c r, hc, h.1]
theorem fle_vl {r x c : Nat} (h : FV r x) (hc : cn c = c) : fle r c = fle x c := by rw [← fle_cn r c, hc, h.1]
theorem fin_v {r x a b : Nat} (h : FV r x) (ha : cn a = a) (hb : cn b = b) : fin a b r = fin a b x := by unfold fin; rw [fle_vr h ha, fle_vl h hb]
theorem part_v {r x : Nat} (h : FV r x) : part r = part x := fin_v h (by decide) (by decide)
theorem take_all_succ {α : Type} {p : α → Bool} {l : List α} {z : α} {k : Nat} (hk : k < l.length) (h : (l.take k).all p = true) (hz : p (l.getD k z) = true) : (l.take (k + 1)).all p = true := by
  rw [List.take_succ_eq_append_getElem hk, List.all_append, h]
  rw [List.getD_eq_getElem?_getD, List.getElem?_eq_getElem hk] at hz
  simpa using hz
theorem all_false {α : Type} {p : α → Bool} {l : List α} {z : α} {k : Nat} (hk : k < l.length) (hz : p (l.getD k z) = false) : l.all p = false := by
  rw [List.getD_eq_getElem?_getD, List.getElem?_eq_getElem hk] at hz
  rw [List.all_eq_false]
  exact ⟨l[k], List.getElem_mem hk, by simpa using hz⟩
theorem l01Teeth_any (n : Int) (w : World) :
    Calls Try.prog 68 #[.int .i64 n] w fun e w' => e = .returned (.bool (iin n 6 200)) ∧ w = w' := by
  go_enter Try.func68, Try.ntmps68
  go_wp2_with (go_at_call 67; refine (l00In_any _ _ _ _).mono ?_; rintro e w' ⟨rfl, rfl⟩)
  go_ret
  exact ⟨rfl, rfl⟩
theorem areTeeth_any (n : Int) (w : World) :
    Calls Try.prog 64 #[.int .i64 n] w fun e w' => e = .returned (.bool (iin n 6 200)) ∧ w = w' := by
  go_enter Try.func64, Try.ntmps64
  go_wp2_with (go_at_call 61; refine (within_any _ _ _ _).mono ?_; rintro e w' ⟨rfl, rfl⟩)
  go_ret
  exact ⟨rfl, rfl⟩
set_option maxHeartbeats 4000000 in
theorem l01Ok_any (A : Option Addr) (c : Nat) (l : List (Int × Int × Nat)) (w : World) (hA : Kd.C kP w A l.length l) (hm : l.length ≤ 1048576) :
    Calls Try.prog 53 #[.slice A l.length c] w fun e w' => e = .returned (.bool (trainOk l)) ∧ w = w' := by
  have HA : Hid (Kd.C kP w A l.length l) := Lib.hid hA
  clear hA
  cases hi : iin (l.length : Int) 1 8
  · have ht : trainOk l = false := by unfold trainOk; rw [hi]; rfl
    rw [ht]; clear ht
    have HI : Hid (∀ w : World, Calls Try.prog 67 #[.int .i64 l.length, .int .i64 1, .int .i64 8] w fun e w' => e = .returned (.bool false) ∧ w = w') := Lib.hid (fun w => by have := l00In_any l.length 1 8 w; rwa [hi] at this)
    clear hi
    go_enter Try.func53, Try.ntmps53
    go_wp2_with (go_at_call 67; refine (HI.out _).mono ?_; rintro e w' ⟨rfl, rfl⟩)
    go_ret
    exact ⟨rfl, rfl⟩
  · have ht : trainOk l = l.all pairOk := by unfold trainOk; rw [hi]; rfl
    rw [ht]; clear ht
    have HI : Hid (∀ w : World, Calls Try.prog 67 #[.int .i64 l.length, .int .i64 1, .int .i64 8] w fun e w' => e = .returned (.bool true) ∧ w = w') := Lib.hid (fun w => by have := l00In_any l.length 1 8 w; rwa [hi] at this)
    clear hi
    go_enter Try.func53, Try.ntmps53
    go_wp2_with (go_at_call 67; refine (HI.out _).mono ?_; rintro e w' ⟨rfl, rfl⟩)
    go_loop [3] (fun i => ∃ k : Nat, k ≤ l.length ∧ i = .int .i64 k ∧ Hid ((l.take k).all pairOk = true)) (fun i => l.length - (intOf i).toNat)
    case atStart => exact ⟨0, Nat.zero_le _, rfl, Lib.hid (by simp)⟩
    case round =>
      obtain ⟨k, hk, rfl, HK⟩ := hrel
      by_cases hlt : k < l.length
      · obtain ⟨b, off, p, q, x, r, rfl, hbl, d0, d1, d2, hx, hr, h16⟩ := at_kP HA.out k hlt
        obtain ⟨g1, g2, g3, g4⟩ := h16
        have q3 := part_v hr
        have HD := Lib.hid (show pairOk (l.getD k zP) = (iin p 6 200 && iin q 6 200 && part x) by rw [hx]; rfl)
        clear hx hr
        go_wp2_with (first | (go_at_call 68; refine (l01Teeth_any _ _).mono ?_; rintro e w' ⟨rfl, rfl⟩) | (go_at_call 32; refine (part_any _ _).mono ?_; rintro e w' ⟨rfl, rfl⟩))
        all_goals first
          | (go_ret; refine ⟨?_, rfl⟩; have hz : pairOk (l.getD k zP) = false := (by rw [HD.out]; first | (simp [*]; done) | (simp [*]; rename_i hlast; simpa using hlast)); rw [all_false hlt hz]; rfl)
          | (go_round
             case rel => exact ⟨k + 1, by omega, by go_num, Lib.hid (take_all_succ hlt HK.out (by rw [HD.out]; first | (simp [*]; done) | (simp [*]; rename_i hlast; simpa using hlast)))⟩
             case measure => simp [intOf]; omega)
      · have e : l.take k = l := List.take_of_length_le (by omega)
        rw [e] at HK
        go_wp2
        go_ret
        exact ⟨by rw [HK.out]; rfl, rfl⟩
set_option maxHeartbeats 4000000 in
theorem validTrain1_any (p q : Int) (x r : Nat) (hr : FV r x) (h16 : i16B p q) (w : World) :
    Calls Try.prog 63 #[.agg #[.int .i16 p, .int .i16 q, .float .f32 r]] w fun e w' => e = .returned (.bool (!pairB p q x)) ∧ Below w.heap.size w w' := by
  obtain ⟨g1, g2, g3, g4⟩ := h16
  have q3 := part_v hr
  have HD := Lib.hid (show pairB p q x = (iin p 6 200 && iin q 6 200 && part x) from rfl)
  clear hr
  go_enter Try.func63, Try.ntmps63
  go_wp2_with (first | (go_at_call 64; refine (areTeeth_any _ _).mono ?_; rintro e w' ⟨rfl, rfl⟩) | (go_at_call 26; refine (isPart_any _ _).mono ?_; rintro e w' ⟨rfl, rfl⟩))
  all_goals (go_ret; refine ⟨by rw [HD.out]; first | (simp [*]; done) | (simp [*]; rename_i hlast; simpa using hlast), ?_⟩)
  all_goals (repeat (first | with_reducible exact Below.refl _ _ | with_reducible refine bset ?_ (by first | (simp; done) | (simp; omega) | omega) _ | with_reducible refine balloc ?_ _ | with_reducible refine bdrewN ?_ _ | with_reducible refine bdrew ?_ | with_reducible refine bstep ?_ (by assumption)))
/-- What an index that is looked for answers: not less than 0 just where there is one. -/
def IdxQ (b : Bool) (w : World) (e : Ending) (w' : World) : Prop := ∃ i : Int, e = .returned (.int .i64 i) ∧ decide (0 ≤ i) = b ∧ Below w.heap.size w w'
set_option maxHeartbeats 4000000 in
theorem indexP_any (A : Option Addr) (c : Nat) (l : List (Int × Int × Nat)) (w : World) (hA : Kd.C kP w A l.length l) (hm : l.length ≤ 1048576) :
    Calls Try.prog 70 #[.slice A l.length c, .func (.func 63) #[] #[]] w (IdxQ (!l.all pairOk) w) := by
  have HA : Hid (Kd.C kP w A l.length l) := Lib.hid hA
  clear hA
  go_enter Try.func70, Try.ntmps70
  go_wp2
  go_loopw [8] (fun i wr => ∃ k : Nat, k ≤ l.length ∧ i = .int .i64 k ∧ Hid ((l.take k).all pairOk = true) ∧ Below w.heap.size w wr) (fun i _ => l.length - (intOf i).toNat)
  case atStart => exact ⟨0, Nat.zero_le _, rfl, Lib.hid (by simp), Below.refl _ _⟩
  case round =>
    obtain ⟨k, hk, rfl, HK, hb⟩ := hrel
    by_cases hlt : k < l.length
    · obtain ⟨b, off, p, q, x, r, rfl, hbl, c0, c1, c2, hx, hr, h16⟩ := at_kP HA.out k hlt
      have d0 := (bc hb b (off + k * 3) hbl).trans c0
      have d1 := (bc hb b (off + k * 3 + 1) hbl).trans c1
      have d2 := (bc hb b (off + k * 3 + 2) hbl).trans c2
      have HC := Lib.hid (validTrain1_any p q x r hr h16)
      have hd : pairOk (l.getD k zP) = pairB p q x := by rw [hx]; rfl
      clear c0 c1 c2 hx hr h16
      cases hp : pairB p q x
      · rw [hp] at hd HC
        have HD := Lib.hid hd
        clear hd hp
        go_wp2_with (go_at_call 63; refine (HC.out _).mono ?_; rintro e w1 ⟨rfl, hb1⟩)
        go_ret
        exact ⟨_, rfl, by rw [all_false hlt HD.out]; simp, bstep hb hb1⟩
      · rw [hp] at hd HC
        have HD := Lib.hid hd
        clear hd hp
        go_wp2_with (go_at_call 63; refine (HC.out _).mono ?_; rintro e w1 ⟨rfl, hb1⟩)
        go_roundw
        case rel => exact ⟨k + 1, by omega, by go_num, Lib.hid (take_all_succ hlt HK.out HD.out), bstep hb hb1⟩
        case measure => simp [intOf]; omega
    · have e : l.take k = l := List.take_of_length_le (by omega)
      rw [e] at HK
      go_wp2
      go_ret
      exact ⟨_, rfl, by rw [HK.out]; simp, hb⟩
theorem containsP_any (A : Option Addr) (c : Nat) (l : List (Int × Int × Nat)) (w : World) (hA : Kd.C kP w A l.length l) (hm : l.length ≤ 1048576) :
    Calls Try.prog 62 #[.slice A l.length c, .func (.func 63) #[] #[]] w fun e w' => e = .returned (.bool (!l.all pairOk)) ∧ Below w.heap.size w w' := by
  have HI := Lib.hid (indexP_any A c l w hA hm)
  clear hA
  go_enter Try.func62, Try.ntmps62
  go_wp2_with (go_at_call 70; refine (HI.out).mono ?_; rintro e w1 ⟨i, rfl, hi, hb1⟩; have HX := Lib.hid hi; clear hi)
  go_ret
  exact ⟨by rw [← HX.out]; rfl, hb1⟩
set_option maxHeartbeats 4000000 in
theorem validTrain_impl (A : Option Addr) (c : Nat) (l : List (Int × Int × Nat)) (w : World) (hA : Kd.C kP w A l.length l) (hm : l.length ≤ 1048576) :
    Calls Try.prog 43 #[.slice A l.length c] w fun e w' => e = .returned (.bool (trainOk l)) ∧ Below w.heap.size w w' := by
  have HA := Lib.hid (containsP_any A c l w hA hm)
  clear hA
  cases hi : iin (l.length : Int) 1 8
  · have ht : trainOk l = false := by unfold trainOk; rw [hi]; rfl
    rw [ht]; clear ht
    have HI : Hid (∀ w : World, Calls Try.prog 61 #[.int .i64 l.length, .int .i64 1, .int .i64 8] w fun e w' => e = .returned (.bool false) ∧ w = w') := Lib.hid (fun w => by have := within_any l.length 1 8 w; rwa [hi] at this)
    clear hi
    go_enter Try.func43, Try.ntmps43
    go_wp2_with (go_at_call 61; refine (HI.out _).mono ?_; rintro e w' ⟨rfl, rfl⟩)
    go_ret
    exact ⟨rfl, Below.refl _ _⟩
  · have ht : trainOk l = l.all pairOk := by unfold trainOk; rw [hi]; rfl
    rw [ht]; clear ht
    have HI : Hid (∀ w : World, Calls Try.prog 61 #[.int .i64 l.length, .int .i64 1, .int .i64 8] w fun e w' => e = .returned (.bool true) ∧ w = w') := Lib.hid (fun w => by have := within_any l.length 1 8 w; rwa [hi] at this)
    clear hi
    generalize l.all pairOk = g at *
    go_enter Try.func43, Try.ntmps43
    go_wp2_with (first | (go_at_call 61; refine (HI.out _).mono ?_; rintro e w' ⟨rfl, rfl⟩) | (go_at_call 62; refine (HA.out).mono ?_; rintro e w1 ⟨rfl, hb1⟩))
    go_ret
    exact ⟨by cases g <;> rfl, hb1⟩
end Go.Proofs.Ytgdaompppclnlaa
