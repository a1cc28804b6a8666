/- Valid lines of discs: the reference's and the program's test, and the law. -/
import Derived.Test.YthdmfmhhnacgfaaLine
namespace Go.Proofs.Ythdmfmhhnacgfaa
open Go.RowKit Ieee
open Go.Proofs.YthdmfmhhnacgfaaW.PrintWords
set_option maxRecDepth 100000

def discB (a b : Nat) : Bool := fin 1015021568 1149239296 a && fin 1015021568 1233125376 b
def discOk (x : Nat × Nat) : Bool := discB x.1 x.2
def lineOk (l : List (Nat × Nat)) : Bool := l.all discOk && iin l.length 2 10
theorem take_all_succ {α : Type} {p : α → Bool} {l : List α} {z : α} {k : Nat} (hk : k < l.length) (h : (l.take k).all p = true) (hz : p (l.getD k z) = true) : (l.take (k + 1)).all p = true := by
  rw [List.take_succ_eq_append_getElem hk, List.all_append, h]
  rw [List.getD_eq_getElem?_getD, List.getElem?_eq_getElem hk] at hz
  simpa using hz
theorem all_false {α : Type} {p : α → Bool} {l : List α} {z : α} {k : Nat} (hk : k < l.length) (hz : p (l.getD k z) = false) : l.all p = false := by
  rw [List.getD_eq_getElem?_getD, List.getElem?_eq_getElem hk] at hz
  rw [List.all_eq_false]
  exact ⟨l[k], List.getElem_mem hk, by simpa using hz⟩

theorem between_v {r x l h : Nat} (hr : FV r x) (hl : cn l = l) (hh : cn h = h) (w : World) :
    Calls Try.prog 28 #[.float .f32 r, .float .f32 l, .float .f32 h] w fun e w' => e = .returned (.bool (fin l h x)) ∧ w = w' := by
  rw [← fin_v hr hl hh]
  exact between_any r l h w

set_option maxHeartbeats 2000000 in
theorem l07Line_any (A : Option Addr) (c : Nat) (l : List (Nat × Nat)) (w : World) (hA : Kd.C kD w A l.length l) (hm : l.length ≤ 1048576) :
    Calls Try.prog 33 #[.slice A l.length c] w fun e w' => e = .returned (.bool (lineOk l)) ∧ Below w.heap.size w w' := by
  have HA : Hid (Kd.C kD w A l.length l) := Lib.hid hA
  clear hA
  go_enter Try.func33, Try.ntmps33
  go_wp2
  go_loopw [3] (fun i wr => ∃ k : Nat, k ≤ l.length ∧ i = .int .i64 k ∧ Hid ((l.take k).all discOk = true) ∧ Below w.heap.size w wr) (fun i _ => l.length - (intOf i).toNat)
  case atStart => exact ⟨0, Nat.zero_le _, rfl, Lib.hid (by simp), Below.refl _ _⟩
  case round =>
    obtain ⟨k, hk, rfl, HK, hb⟩ := hrel
    by_cases hlt : k < l.length
    · obtain ⟨b, off, r, s, rfl, hbl, c0, c1, hr, hs⟩ := at_kD HA.out k hlt
      have d0 := (bc hb b (off + k * 2) hbl).trans c0
      have d1 := (bc hb b (off + k * 2 + 1) hbl).trans c1
      clear c0 c1
      have q1 := fle_vr (c := 1015021568) hr (by decide)
      have q2 := fle_vl (c := 1149239296) hr (by decide)
      have q3 := fle_vr (c := 1015021568) hs (by decide)
      have q4 := fle_vl (c := 1233125376) hs (by decide)
      have hd : discOk (l.getD k (0, 0)) = discB (l.getD k (0, 0)).1 (l.getD k (0, 0)).2 := rfl
      obtain ⟨xa, hxa⟩ : ∃ xa, xa = (l.getD k (0, 0)).1 := ⟨_, rfl⟩
      obtain ⟨xb, hxb⟩ : ∃ xb, xb = (l.getD k (0, 0)).2 := ⟨_, rfl⟩
      rw [← hxa] at q1 q2
      rw [← hxb] at q3 q4
      rw [← hxa, ← hxb] at hd
      have HD := Lib.hid hd
      clear hxa hxb hd hr hs
      go_wp2
      all_goals first
        | (go_ret; refine ⟨?_, by (repeat (first | with_reducible exact Below.refl _ _ | with_reducible refine bset ?_ (by first | (simp; done) | (simp; omega) | omega) _ | with_reducible refine balloc ?_ _ | with_reducible refine bdrewN ?_ _ | with_reducible refine bdrew ?_ | with_reducible refine bstep ?_ (by assumption)))⟩; have hz : discOk (l.getD k (0, 0)) = false := (by rw [HD.out]; unfold discB fin; first | (simp [*]; done) | (simp [*]; rename_i hlast; simpa using hlast)); unfold lineOk; rw [all_false hlt hz]; rfl)
        | (go_roundw
           case rel => exact ⟨k + 1, by omega, by go_num, Lib.hid (take_all_succ hlt HK.out (by rw [HD.out]; unfold discB fin; first | (simp [*]; done) | (simp [*]; rename_i hlast; simpa using hlast))), balloc hb _⟩
           case measure => simp [intOf]; omega)
    · have e : l.take k = l := List.take_of_length_le (by omega)
      rw [e] at HK
      go_wp2_with (go_at_call 40; refine (l00In_any _ _ _ _).mono ?_; rintro e w' ⟨rfl, rfl⟩)
      go_ret
      exact ⟨by unfold lineOk; rw [HK.out]; rfl, hb⟩
set_option maxHeartbeats 2000000 in
theorem validLine_impl (A : Option Addr) (c : Nat) (l : List (Nat × Nat)) (w : World) (hA : Kd.C kD w A l.length l) (hm : l.length ≤ 1048576) :
    Calls Try.prog 12 #[.slice A l.length c] w fun e w' => e = .returned (.bool (lineOk l)) ∧ Below w.heap.size w w' := by
  have HA : Hid (Kd.C kD w A l.length l) := Lib.hid hA
  clear hA
  go_enter Try.func12, Try.ntmps12
  go_wp2
  go_loopw [7] (fun i wr => ∃ k : Nat, k ≤ l.length ∧ i = .int .i64 k ∧ Hid ((l.take k).all discOk = true) ∧ Below w.heap.size w wr) (fun i _ => l.length - (intOf i).toNat)
  case atStart => exact ⟨0, Nat.zero_le _, rfl, Lib.hid (by simp), Below.refl _ _⟩
  case round =>
    obtain ⟨k, hk, rfl, HK, hb⟩ := hrel
    by_cases hlt : k < l.length
    · obtain ⟨b, off, r, s, rfl, hbl, c0, c1, hr, hs⟩ := at_kD HA.out k hlt
      have d0 := (bc hb b (off + k * 2) hbl).trans c0
      have d1 := (bc hb b (off + k * 2 + 1) hbl).trans c1
      clear c0 c1
      have q1 : fin 1015021568 1149239296 r = fin 1015021568 1149239296 (l.getD k (0, 0)).1 := fin_v hr (by decide) (by decide)
      have q2 : fin 1015021568 1233125376 s = fin 1015021568 1233125376 (l.getD k (0, 0)).2 := fin_v hs (by decide) (by decide)
      have hd : discOk (l.getD k (0, 0)) = (fin 1015021568 1149239296 (l.getD k (0, 0)).1 && fin 1015021568 1233125376 (l.getD k (0, 0)).2) := rfl
      obtain ⟨p1, hp1⟩ : ∃ p, p = fin 1015021568 1149239296 (l.getD k (0, 0)).1 := ⟨_, rfl⟩
      obtain ⟨p2, hp2⟩ : ∃ p, p = fin 1015021568 1233125376 (l.getD k (0, 0)).2 := ⟨_, rfl⟩
      rw [← hp1] at q1
      rw [← hp2] at q2
      rw [← hp1, ← hp2] at hd
      have HD := Lib.hid hd
      clear hp1 hp2 hd hr hs
      go_wp2_with (go_at_call 28; refine (between_any _ _ _ _).mono ?_; rintro e w' ⟨rfl, rfl⟩)
      all_goals first
        | (go_ret; refine ⟨?_, by (repeat (first | with_reducible exact Below.refl _ _ | with_reducible refine bset ?_ (by first | (simp; done) | (simp; omega) | omega) _ | with_reducible refine balloc ?_ _ | with_reducible refine bdrewN ?_ _ | with_reducible refine bdrew ?_ | with_reducible refine bstep ?_ (by assumption)))⟩; have hz : discOk (l.getD k (0, 0)) = false := (by rw [HD.out]; first | (simp [*]; done) | (simp [*]; rename_i hlast; simpa using hlast)); unfold lineOk; rw [all_false hlt hz]; rfl)
        | (go_roundw
           case rel => exact ⟨k + 1, by omega, by go_num, Lib.hid (take_all_succ hlt HK.out (by rw [HD.out]; first | (simp [*]; done) | (simp [*]; rename_i hlast; simpa using hlast))), balloc hb _⟩
           case measure => simp [intOf]; omega)
    · have e : l.take k = l := List.take_of_length_le (by omega)
      rw [e] at HK
      go_wp2_with (go_at_call 29; refine (within_any _ _ _ _).mono ?_; rintro e w' ⟨rfl, rfl⟩)
      go_ret
      exact ⟨by unfold lineOk; rw [HK.out]; rfl, hb⟩
end Go.Proofs.Ythdmfmhhnacgfaa
