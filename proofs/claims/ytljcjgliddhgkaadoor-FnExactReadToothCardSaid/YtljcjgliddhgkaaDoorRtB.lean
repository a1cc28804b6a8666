/- A tooth read from a text: the model's function. -/
import Derived.Test.YtljcjgliddhgkaaDoorSplA
import Derived.Test.YtljcjgliddhgkaaDoorRdA
import Derived.Test.YtljcjgliddhgkaaDoorNmA
import Derived.Test.YtljcjgliddhgkaaDoorTooth4
namespace Go.Proofs.YtljcjgliddhgkaaDoor
open Go.RowKit Ieee
open Go.Proofs.YtljcjgliddhgkaaDoorW.PrintWords
set_option maxRecDepth 100000
attribute [local irreducible] wpRel hexL cn
theorem l01Split_row (s : ByteArray) (c : UInt8) (hs : s.size ≤ 1048576) (xs : List (List UInt8)) (n : Nat) (hx : splC c s.data.toList = xs) (hn : xs.length = n) (w : World) :
    Calls Tryd.prog 30 #[.string s, .int .u8 (c.toNat : Int)] w fun e w' => ∃ A k, e = .returned (.slice A n k) ∧ Kd.C kS w' A n xs ∧ Below w.heap.size w w' := by
  refine (l01Split_any s c hs w).mono ?_
  rintro e w' ⟨v, rfl, hR, hb⟩
  subst hx
  subst hn
  obtain ⟨A, k, hv, _, hC⟩ := hR.reads
  exact ⟨A, k, by rw [hv], hC, hb⟩
/-- Four texts of a row. -/
theorem row4 {w : World} {A : Option Addr} {a b c d : List UInt8} (h : Kd.C kS w A 4 [a, b, c, d]) :
    ∃ g off, A = some ⟨g, off, none⟩ ∧ g < w.heap.size ∧ w.cell? ⟨g, off, none⟩ = some (.string ⟨a.toArray⟩) ∧ w.cell? ⟨g, off + 1, none⟩ = some (.string ⟨b.toArray⟩) ∧ w.cell? ⟨g, off + 2, none⟩ = some (.string ⟨c.toArray⟩) ∧ w.cell? ⟨g, off + 3, none⟩ = some (.string ⟨d.toArray⟩) := by
  obtain ⟨g, off, e, hb, h0⟩ := at_kS h 0 (by decide)
  subst e
  refine ⟨g, off, rfl, hb, h0, ?_, ?_, ?_⟩
  · obtain ⟨g', off', e, _, h1⟩ := at_kS h 1 (by decide)
    injection e with e; injection e with e1 e2; subst e1 e2; exact h1
  · obtain ⟨g', off', e, _, h1⟩ := at_kS h 2 (by decide)
    injection e with e; injection e with e1 e2; subst e1 e2; exact h1
  · obtain ⟨g', off', e, _, h1⟩ := at_kS h 3 (by decide)
    injection e with e; injection e with e1 e2; subst e1 e2; exact h1
theorem data_size (l : List UInt8) : (⟨l.toArray⟩ : ByteArray).size = l.length := by show l.toArray.size = _; simp
/-- What comes of reading a tooth. -/
def RtQ (P : Nat → Nat → Nat → Int → Int → Prop) (w : World) (e : Ending) (w' : World) : Prop :=
  ∃ h x y s k, e = .returned (.tuple #[.agg #[.float .f32 h, .float .f32 x, .float .f32 y, .int .i8 s], .int .i64 k]) ∧ P h x y s k ∧ Below w.heap.size w w'
def RtNo (h x y : Nat) (s k : Int) : Prop := h = 0 ∧ x = 0 ∧ y = 0 ∧ s = 0 ∧ k = 5
set_option maxHeartbeats 600000 in
theorem readTooth_spec_len (s : ByteArray) (hs : s.size ≤ 1048576) (xs : List (List UInt8)) (hx : splC 44 s.data.toList = xs) (h4 : xs.length ≠ 4) (w : World) :
    Calls Tryd.prog 9 #[.string s] w (RtQ RtNo w) := by
  obtain ⟨n, hn⟩ : ∃ n, xs.length = n := ⟨_, rfl⟩
  have x1 : ((n : Int) != 4) = true := by simp; omega
  have HSP := Lib.hid (fun w => l01Split_row s 44 hs xs n hx hn w)
  clear hx hn h4 hs
  go_enter Tryd.func9, Tryd.ntmps9
  go_wp2_with (go_at_call 30; refine (HSP.out _).mono ?_; rintro e w1 ⟨A, k, rfl, hC, hb1⟩; have HC := Lib.hid hC; clear hC; have hc1 := bc hb1; have hf1 := bf hb1; have hs1 := hb1.size; (try simp at hs1); (try have hz10 : w.heap.size < w1.heap.size := by omega); (try have hz11 : w.heap.size + 1 < w1.heap.size := by omega); (try have hz12 : w.heap.size + 1 + 1 < w1.heap.size := by omega); (try have hz13 : w.heap.size + 1 + 1 + 1 < w1.heap.size := by omega))
  refine bodyPost_ret (v := .tuple #[zeroT, .int .i64 5]) (by simp only [results, Tryd.results9]; go_simp; rfl) rfl ⟨_, _, _, _, _, rfl, ⟨rfl, rfl, rfl, rfl, rfl⟩, ?_⟩
  (repeat (first | with_reducible exact Below.refl _ _ | with_reducible refine bset ?_ (by first | (simp; done) | (simp; omega) | omega) _ | with_reducible refine balloc ?_ _ | with_reducible refine bdrewN ?_ _ | with_reducible refine bdrew ?_ | with_reducible refine bstep ?_ (by assumption)))
set_option maxHeartbeats 1000000 in
theorem readTooth_spec_w0 (s : ByteArray) (hs : s.size ≤ 1048576) (a b c d : List UInt8) (hx : splC 44 s.data.toList = [a, b, c, d]) (ha : a.length ≤ 1048577) (k0 : rdOk a = false) (w : World) :
    Calls Tryd.prog 9 #[.string s] w (RtQ RtNo w) := by
  have HSP := Lib.hid (fun w => l01Split_row s 44 hs _ 4 hx rfl w)
  have R0 := Lib.hid (l01Read_no ⟨a.toArray⟩ (by rw [data_size]; exact ha) k0)
  clear hx hs ha k0 
  go_enter Tryd.func9, Tryd.ntmps9
  go_wp2_with (go_at_call 30; refine (HSP.out _).mono ?_; rintro e w1 ⟨A, k, rfl, hC, hb1⟩; obtain ⟨g, off, rfl, hg, c0, c1, c2, c3⟩ := row4 hC; clear hC; have hc1 := bc hb1; have hf1 := bf hb1; have hs1 := hb1.size; (try simp at hs1); (try have hz10 : w.heap.size < w1.heap.size := by omega); (try have hz11 : w.heap.size + 1 < w1.heap.size := by omega); (try have hz12 : w.heap.size + 1 + 1 < w1.heap.size := by omega); (try have hz13 : w.heap.size + 1 + 1 + 1 < w1.heap.size := by omega))
  refine wp_loop_rounds 4 ?_
  rw [rounds_succ]
  go_wp2_with (go_at_call 31; refine (R0.out _).mono ?_; rintro e w2 ⟨⟨r0, rfl⟩, rfl⟩)
  refine bodyPost_ret (v := .tuple #[zeroT, .int .i64 5]) (by simp only [results, Tryd.results9]; go_simp; rfl) rfl ⟨_, _, _, _, _, rfl, ⟨rfl, rfl, rfl, rfl, rfl⟩, ?_⟩
  (repeat (first | with_reducible exact Below.refl _ _ | with_reducible refine bset ?_ (by first | (simp; done) | (simp; omega) | omega) _ | with_reducible refine balloc ?_ _ | with_reducible refine bdrewN ?_ _ | with_reducible refine bdrew ?_ | with_reducible refine bstep ?_ (by assumption)))
set_option maxHeartbeats 1000000 in
theorem readTooth_spec_w1 (s : ByteArray) (hs : s.size ≤ 1048576) (a b c d : List UInt8) (hx : splC 44 s.data.toList = [a, b, c, d]) (ha : a.length ≤ 1048577) (hb : b.length ≤ 1048577) (k0 : rdOk a = true) (k1 : rdOk b = false) (w : World) :
    Calls Tryd.prog 9 #[.string s] w (RtQ RtNo w) := by
  have HSP := Lib.hid (fun w => l01Split_row s 44 hs _ 4 hx rfl w)
  have R0 := Lib.hid (l01Read_ok ⟨a.toArray⟩ (by rw [data_size]; exact ha) k0)
  rw [show (⟨a.toArray⟩ : ByteArray).data.toList = a from rfl] at R0
  obtain ⟨v0, hv0⟩ : ∃ v, rdN a 0 = v := ⟨_, rfl⟩
  rw [hv0] at R0
  have R1 := Lib.hid (l01Read_no ⟨b.toArray⟩ (by rw [data_size]; exact hb) k1)
  clear hx hs ha k0 hb k1 hv0
  go_enter Tryd.func9, Tryd.ntmps9
  go_wp2_with (go_at_call 30; refine (HSP.out _).mono ?_; rintro e w1 ⟨A, k, rfl, hC, hb1⟩; obtain ⟨g, off, rfl, hg, c0, c1, c2, c3⟩ := row4 hC; clear hC; have hc1 := bc hb1; have hf1 := bf hb1; have hs1 := hb1.size; (try simp at hs1); (try have hz10 : w.heap.size < w1.heap.size := by omega); (try have hz11 : w.heap.size + 1 < w1.heap.size := by omega); (try have hz12 : w.heap.size + 1 + 1 < w1.heap.size := by omega); (try have hz13 : w.heap.size + 1 + 1 + 1 < w1.heap.size := by omega))
  refine wp_loop_rounds 4 ?_
  rw [rounds_succ]
  go_wp2_with (go_at_call 31; refine (R0.out _).mono ?_; rintro e w2 ⟨rfl, rfl⟩)
  rw [rounds_succ]
  go_wp2_with (go_at_call 31; refine (R1.out _).mono ?_; rintro e w2 ⟨⟨r0, rfl⟩, rfl⟩)
  refine bodyPost_ret (v := .tuple #[zeroT, .int .i64 5]) (by simp only [results, Tryd.results9]; go_simp; rfl) rfl ⟨_, _, _, _, _, rfl, ⟨rfl, rfl, rfl, rfl, rfl⟩, ?_⟩
  (repeat (first | with_reducible exact Below.refl _ _ | with_reducible refine bset ?_ (by first | (simp; done) | (simp; omega) | omega) _ | with_reducible refine balloc ?_ _ | with_reducible refine bdrewN ?_ _ | with_reducible refine bdrew ?_ | with_reducible refine bstep ?_ (by assumption)))
set_option maxHeartbeats 1000000 in
theorem readTooth_spec_w2 (s : ByteArray) (hs : s.size ≤ 1048576) (a b c d : List UInt8) (hx : splC 44 s.data.toList = [a, b, c, d]) (ha : a.length ≤ 1048577) (hb : b.length ≤ 1048577) (hc : c.length ≤ 1048577) (k0 : rdOk a = true) (k1 : rdOk b = true) (k2 : rdOk c = false) (w : World) :
    Calls Tryd.prog 9 #[.string s] w (RtQ RtNo w) := by
  have HSP := Lib.hid (fun w => l01Split_row s 44 hs _ 4 hx rfl w)
  have R0 := Lib.hid (l01Read_ok ⟨a.toArray⟩ (by rw [data_size]; exact ha) k0)
  rw [show (⟨a.toArray⟩ : ByteArray).data.toList = a from rfl] at R0
  obtain ⟨v0, hv0⟩ : ∃ v, rdN a 0 = v := ⟨_, rfl⟩
  rw [hv0] at R0
  have R1 := Lib.hid (l01Read_ok ⟨b.toArray⟩ (by rw [data_size]; exact hb) k1)
  rw [show (⟨b.toArray⟩ : ByteArray).data.toList = b from rfl] at R1
  obtain ⟨v1, hv1⟩ : ∃ v, rdN b 0 = v := ⟨_, rfl⟩
  rw [hv1] at R1
  have R2 := Lib.hid (l01Read_no ⟨c.toArray⟩ (by rw [data_size]; exact hc) k2)
  clear hx hs ha k0 hb k1 hc k2 hv0 hv1
  go_enter Tryd.func9, Tryd.ntmps9
  go_wp2_with (go_at_call 30; refine (HSP.out _).mono ?_; rintro e w1 ⟨A, k, rfl, hC, hb1⟩; obtain ⟨g, off, rfl, hg, c0, c1, c2, c3⟩ := row4 hC; clear hC; have hc1 := bc hb1; have hf1 := bf hb1; have hs1 := hb1.size; (try simp at hs1); (try have hz10 : w.heap.size < w1.heap.size := by omega); (try have hz11 : w.heap.size + 1 < w1.heap.size := by omega); (try have hz12 : w.heap.size + 1 + 1 < w1.heap.size := by omega); (try have hz13 : w.heap.size + 1 + 1 + 1 < w1.heap.size := by omega))
  refine wp_loop_rounds 4 ?_
  rw [rounds_succ]
  go_wp2_with (go_at_call 31; refine (R0.out _).mono ?_; rintro e w2 ⟨rfl, rfl⟩)
  rw [rounds_succ]
  go_wp2_with (go_at_call 31; refine (R1.out _).mono ?_; rintro e w2 ⟨rfl, rfl⟩)
  rw [rounds_succ]
  go_wp2_with (go_at_call 31; refine (R2.out _).mono ?_; rintro e w2 ⟨⟨r0, rfl⟩, rfl⟩)
  refine bodyPost_ret (v := .tuple #[zeroT, .int .i64 5]) (by simp only [results, Tryd.results9]; go_simp; rfl) rfl ⟨_, _, _, _, _, rfl, ⟨rfl, rfl, rfl, rfl, rfl⟩, ?_⟩
  (repeat (first | with_reducible exact Below.refl _ _ | with_reducible refine bset ?_ (by first | (simp; done) | (simp; omega) | omega) _ | with_reducible refine balloc ?_ _ | with_reducible refine bdrewN ?_ _ | with_reducible refine bdrew ?_ | with_reducible refine bstep ?_ (by assumption)))
set_option maxHeartbeats 1000000 in
theorem readTooth_spec_d (s : ByteArray) (hs : s.size ≤ 1048576) (a b c d : List UInt8) (hx : splC 44 s.data.toList = [a, b, c, d]) (ha : a.length ≤ 1048577) (hb : b.length ≤ 1048577) (hc : c.length ≤ 1048577) (v0 v1 v2 : Nat) (hv0 : rdN a 0 = v0) (hv1 : rdN b 0 = v1) (hv2 : rdN c 0 = v2) (k0 : rdOk a = true) (k1 : rdOk b = true) (k2 : rdOk c = true) (hd : d.length ≤ 1048577) (k3 : nmOk d = false) (w : World) :
    Calls Tryd.prog 9 #[.string s] w (RtQ RtNo w) := by
  have HSP := Lib.hid (fun w => l01Split_row s 44 hs _ 4 hx rfl w)
  have R0 := Lib.hid (l01Read_ok ⟨a.toArray⟩ (by rw [data_size]; exact ha) k0)
  rw [show (⟨a.toArray⟩ : ByteArray).data.toList = a from rfl, hv0] at R0
  have R1 := Lib.hid (l01Read_ok ⟨b.toArray⟩ (by rw [data_size]; exact hb) k1)
  rw [show (⟨b.toArray⟩ : ByteArray).data.toList = b from rfl, hv1] at R1
  have R2 := Lib.hid (l01Read_ok ⟨c.toArray⟩ (by rw [data_size]; exact hc) k2)
  rw [show (⟨c.toArray⟩ : ByteArray).data.toList = c from rfl, hv2] at R2
  have hN := l01Number_any ⟨d.toArray⟩ (by rw [data_size]; exact hd)
  rw [show (⟨d.toArray⟩ : ByteArray).data.toList = d from rfl, k3] at hN
  have HNM := Lib.hid hN
  clear hN hd k3
  clear hx hs ha hb hc k0 k1 k2 hv0 hv1 hv2
  go_enter Tryd.func9, Tryd.ntmps9
  go_wp2_with (go_at_call 30; refine (HSP.out _).mono ?_; rintro e w1 ⟨A, k, rfl, hC, hb1⟩; obtain ⟨g, off, rfl, hg, c0, c1, c2, c3⟩ := row4 hC; clear hC; have hc1 := bc hb1; have hf1 := bf hb1; have hs1 := hb1.size; (try simp at hs1); (try have hz10 : w.heap.size < w1.heap.size := by omega); (try have hz11 : w.heap.size + 1 < w1.heap.size := by omega); (try have hz12 : w.heap.size + 1 + 1 < w1.heap.size := by omega); (try have hz13 : w.heap.size + 1 + 1 + 1 < w1.heap.size := by omega))
  refine wp_loop_rounds 4 ?_
  rw [rounds_succ]
  go_wp2_with (go_at_call 31; refine (R0.out _).mono ?_; rintro e w2 ⟨rfl, rfl⟩)
  rw [rounds_succ]
  go_wp2_with (go_at_call 31; refine (R1.out _).mono ?_; rintro e w2 ⟨rfl, rfl⟩)
  rw [rounds_succ]
  go_wp2_with (go_at_call 31; refine (R2.out _).mono ?_; rintro e w2 ⟨rfl, rfl⟩)
  rw [rounds_succ]
  go_wp2_with (go_at_call 32; refine (HNM.out _).mono ?_; rintro e w2 ⟨⟨r0, rfl, _⟩, rfl⟩)
  refine bodyPost_ret (v := .tuple #[zeroT, .int .i64 5]) (by simp only [results, Tryd.results9]; go_simp; rfl) rfl ⟨_, _, _, _, _, rfl, ⟨rfl, rfl, rfl, rfl, rfl⟩, ?_⟩
  (repeat (first | with_reducible exact Below.refl _ _ | with_reducible refine bset ?_ (by first | (simp; done) | (simp; omega) | omega) _ | with_reducible refine balloc ?_ _ | with_reducible refine bdrewN ?_ _ | with_reducible refine bdrew ?_ | with_reducible refine bstep ?_ (by assumption)))
set_option maxHeartbeats 1000000 in
theorem readTooth_spec_e (s : ByteArray) (hs : s.size ≤ 1048576) (a b c d : List UInt8) (hx : splC 44 s.data.toList = [a, b, c, d]) (ha : a.length ≤ 1048577) (hb : b.length ≤ 1048577) (hc : c.length ≤ 1048577) (v0 v1 v2 : Nat) (hv0 : rdN a 0 = v0) (hv1 : rdN b 0 = v1) (hv2 : rdN c 0 = v2) (k0 : rdOk a = true) (k1 : rdOk b = true) (k2 : rdOk c = true) (hd : d.length ≤ 1048577) (k3 : nmOk d = true) (k4 : 1 < nmV d 0) (w : World) :
    Calls Tryd.prog 9 #[.string s] w (RtQ RtNo w) := by
  have HSP := Lib.hid (fun w => l01Split_row s 44 hs _ 4 hx rfl w)
  have R0 := Lib.hid (l01Read_ok ⟨a.toArray⟩ (by rw [data_size]; exact ha) k0)
  rw [show (⟨a.toArray⟩ : ByteArray).data.toList = a from rfl, hv0] at R0
  have R1 := Lib.hid (l01Read_ok ⟨b.toArray⟩ (by rw [data_size]; exact hb) k1)
  rw [show (⟨b.toArray⟩ : ByteArray).data.toList = b from rfl, hv1] at R1
  have R2 := Lib.hid (l01Read_ok ⟨c.toArray⟩ (by rw [data_size]; exact hc) k2)
  rw [show (⟨c.toArray⟩ : ByteArray).data.toList = c from rfl, hv2] at R2
  have hN := l01Number_any ⟨d.toArray⟩ (by rw [data_size]; exact hd)
  rw [show (⟨d.toArray⟩ : ByteArray).data.toList = d from rfl, k3] at hN
  have HNM := Lib.hid hN
  obtain ⟨r, hr⟩ : ∃ r, nmV d 0 = r := ⟨_, rfl⟩
  rw [hr] at k4 HNM
  have x4 : (1 : Int) < (r : Int) := by omega
  clear hN hd k3 hr
  clear hx hs ha hb hc k0 k1 k2 hv0 hv1 hv2
  go_enter Tryd.func9, Tryd.ntmps9
  go_wp2_with (go_at_call 30; refine (HSP.out _).mono ?_; rintro e w1 ⟨A, k, rfl, hC, hb1⟩; obtain ⟨g, off, rfl, hg, c0, c1, c2, c3⟩ := row4 hC; clear hC; have hc1 := bc hb1; have hf1 := bf hb1; have hs1 := hb1.size; (try simp at hs1); (try have hz10 : w.heap.size < w1.heap.size := by omega); (try have hz11 : w.heap.size + 1 < w1.heap.size := by omega); (try have hz12 : w.heap.size + 1 + 1 < w1.heap.size := by omega); (try have hz13 : w.heap.size + 1 + 1 + 1 < w1.heap.size := by omega))
  refine wp_loop_rounds 4 ?_
  rw [rounds_succ]
  go_wp2_with (go_at_call 31; refine (R0.out _).mono ?_; rintro e w2 ⟨rfl, rfl⟩)
  rw [rounds_succ]
  go_wp2_with (go_at_call 31; refine (R1.out _).mono ?_; rintro e w2 ⟨rfl, rfl⟩)
  rw [rounds_succ]
  go_wp2_with (go_at_call 31; refine (R2.out _).mono ?_; rintro e w2 ⟨rfl, rfl⟩)
  rw [rounds_succ]
  go_wp2_with (go_at_call 32; refine (HNM.out _).mono ?_; rintro e w2 ⟨⟨r0, rfl, h0⟩, rfl⟩; obtain rfl := h0 rfl)
  refine bodyPost_ret (v := .tuple #[zeroT, .int .i64 5]) (by simp only [results, Tryd.results9]; go_simp; rfl) rfl ⟨_, _, _, _, _, rfl, ⟨rfl, rfl, rfl, rfl, rfl⟩, ?_⟩
  (repeat (first | with_reducible exact Below.refl _ _ | with_reducible refine bset ?_ (by first | (simp; done) | (simp; omega) | omega) _ | with_reducible refine balloc ?_ _ | with_reducible refine bdrewN ?_ _ | with_reducible refine bdrew ?_ | with_reducible refine bstep ?_ (by assumption)))
set_option maxHeartbeats 1000000 in
theorem readTooth_spec_f (s : ByteArray) (hs : s.size ≤ 1048576) (a b c d : List UInt8) (hx : splC 44 s.data.toList = [a, b, c, d]) (ha : a.length ≤ 1048577) (hb : b.length ≤ 1048577) (hc : c.length ≤ 1048577) (v0 v1 v2 : Nat) (hv0 : rdN a 0 = v0) (hv1 : rdN b 0 = v1) (hv2 : rdN c 0 = v2) (k0 : rdOk a = true) (k1 : rdOk b = true) (k2 : rdOk c = true) (hd : d.length ≤ 1048577) (k3 : nmOk d = true) (k4 : nmV d 0 ≤ 1) (k5 : okTooth v0 v1 v2 (nmV d 0) = false) (w : World) :
    Calls Tryd.prog 9 #[.string s] w (RtQ RtNo w) := by
  have HSP := Lib.hid (fun w => l01Split_row s 44 hs _ 4 hx rfl w)
  have R0 := Lib.hid (l01Read_ok ⟨a.toArray⟩ (by rw [data_size]; exact ha) k0)
  rw [show (⟨a.toArray⟩ : ByteArray).data.toList = a from rfl, hv0] at R0
  have R1 := Lib.hid (l01Read_ok ⟨b.toArray⟩ (by rw [data_size]; exact hb) k1)
  rw [show (⟨b.toArray⟩ : ByteArray).data.toList = b from rfl, hv1] at R1
  have R2 := Lib.hid (l01Read_ok ⟨c.toArray⟩ (by rw [data_size]; exact hc) k2)
  rw [show (⟨c.toArray⟩ : ByteArray).data.toList = c from rfl, hv2] at R2
  have hN := l01Number_any ⟨d.toArray⟩ (by rw [data_size]; exact hd)
  rw [show (⟨d.toArray⟩ : ByteArray).data.toList = d from rfl, k3] at hN
  have HNM := Lib.hid hN
  obtain ⟨r, hr⟩ : ∃ r, nmV d 0 = r := ⟨_, rfl⟩
  rw [hr] at k4 k5 HNM
  have x4 : (r : Int) ≤ 1 := by omega
  have x5 : (0 : Int) ≤ (r : Int) := by omega
  have K5 := Lib.hid k5
  clear hN hd k3 hr k5
  clear hx hs ha hb hc k0 k1 k2 hv0 hv1 hv2
  go_enter Tryd.func9, Tryd.ntmps9
  go_wp2_with (go_at_call 30; refine (HSP.out _).mono ?_; rintro e w1 ⟨A, k, rfl, hC, hb1⟩; obtain ⟨g, off, rfl, hg, c0, c1, c2, c3⟩ := row4 hC; clear hC; have hc1 := bc hb1; have hf1 := bf hb1; have hs1 := hb1.size; (try simp at hs1); (try have hz10 : w.heap.size < w1.heap.size := by omega); (try have hz11 : w.heap.size + 1 < w1.heap.size := by omega); (try have hz12 : w.heap.size + 1 + 1 < w1.heap.size := by omega); (try have hz13 : w.heap.size + 1 + 1 + 1 < w1.heap.size := by omega))
  refine wp_loop_rounds 4 ?_
  rw [rounds_succ]
  go_wp2_with (go_at_call 31; refine (R0.out _).mono ?_; rintro e w2 ⟨rfl, rfl⟩)
  rw [rounds_succ]
  go_wp2_with (go_at_call 31; refine (R1.out _).mono ?_; rintro e w2 ⟨rfl, rfl⟩)
  rw [rounds_succ]
  go_wp2_with (go_at_call 31; refine (R2.out _).mono ?_; rintro e w2 ⟨rfl, rfl⟩)
  rw [rounds_succ]
  go_wp2_with (first | (go_at_call 32; refine (HNM.out _).mono ?_; rintro e w2 ⟨⟨r0, rfl, h0⟩, rfl⟩; obtain rfl := h0 rfl) | (go_at_call 25; refine (okTooth_spec _ _ _ _ (by omega) (by omega) _).mono ?_; rintro e w3 ⟨rfl, hb3⟩; rw [K5.out]; have hc3 := bc hb3; have hf3 := bf hb3; have hs3 := hb3.size; (try simp at hs3); (try have hz30 : w.heap.size < w3.heap.size := by omega); (try have hz31 : w.heap.size + 1 < w3.heap.size := by omega); (try have hz32 : w.heap.size + 1 + 1 < w3.heap.size := by omega); (try have hz33 : w.heap.size + 1 + 1 + 1 < w3.heap.size := by omega); (try have hy320 : w2.heap.size < w3.heap.size := by omega); (try have hy321 : w2.heap.size + 1 < w3.heap.size := by omega); (have k30 : w3.cell? ⟨w.heap.size, 0, none⟩ = some (.float .f32 0) := (hc3 w.heap.size 0 (by first | omega | (simp; omega))).trans (by go_simp)); (have f30 := hf3 w.heap.size 0 (by first | omega | (simp; omega))); (have k31 : w3.cell? ⟨w.heap.size, 1, none⟩ = some (.float .f32 0) := (hc3 w.heap.size 1 (by first | omega | (simp; omega))).trans (by go_simp)); (have f31 := hf3 w.heap.size 1 (by first | omega | (simp; omega))); (have k32 : w3.cell? ⟨w.heap.size, 2, none⟩ = some (.float .f32 0) := (hc3 w.heap.size 2 (by first | omega | (simp; omega))).trans (by go_simp)); (have f32 := hf3 w.heap.size 2 (by first | omega | (simp; omega))); (have k33 : w3.cell? ⟨w.heap.size, 3, none⟩ = some (.int .i8 0) := (hc3 w.heap.size 3 (by first | omega | (simp; omega))).trans (by go_simp)); (have f33 := hf3 w.heap.size 3 (by first | omega | (simp; omega))); (have l30 := hc3 (w1.heap.size + 1) 0 (by first | omega | (simp; done) | (simp; omega))); (have l31 := hc3 (w1.heap.size + 1) 1 (by first | omega | (simp; done) | (simp; omega))); (have l32 := hc3 (w1.heap.size + 1) 2 (by first | omega | (simp; done) | (simp; omega))); (have l33 := hc3 (w1.heap.size + 1) 3 (by first | omega | (simp; done) | (simp; omega)))))
  refine bodyPost_ret (v := .tuple #[zeroT, .int .i64 5]) (by simp only [results, Tryd.results9]; go_simp; rfl) rfl ⟨_, _, _, _, _, rfl, ⟨rfl, rfl, rfl, rfl, rfl⟩, ?_⟩
  (repeat (first | with_reducible exact Below.refl _ _ | with_reducible refine bset ?_ (by first | (simp; done) | (simp; omega) | omega) _ | with_reducible refine balloc ?_ _ | with_reducible refine bdrewN ?_ _ | with_reducible refine bdrew ?_ | with_reducible refine bstep ?_ (by assumption)))
set_option maxHeartbeats 1000000 in
theorem readTooth_spec_y (s : ByteArray) (hs : s.size ≤ 1048576) (a b c d : List UInt8) (hx : splC 44 s.data.toList = [a, b, c, d]) (ha : a.length ≤ 1048577) (hb : b.length ≤ 1048577) (hc : c.length ≤ 1048577) (v0 v1 v2 : Nat) (hv0 : rdN a 0 = v0) (hv1 : rdN b 0 = v1) (hv2 : rdN c 0 = v2) (k0 : rdOk a = true) (k1 : rdOk b = true) (k2 : rdOk c = true) (hd : d.length ≤ 1048577) (k3 : nmOk d = true) (k4 : nmV d 0 ≤ 1) (k5 : okTooth v0 v1 v2 (nmV d 0) = true) (w : World) :
    Calls Tryd.prog 9 #[.string s] w (RtQ (fun h x y z k => h = v0 ∧ x = v1 ∧ y = v2 ∧ z = nmV d 0 ∧ k = 0) w) := by
  have HSP := Lib.hid (fun w => l01Split_row s 44 hs _ 4 hx rfl w)
  have R0 := Lib.hid (l01Read_ok ⟨a.toArray⟩ (by rw [data_size]; exact ha) k0)
  rw [show (⟨a.toArray⟩ : ByteArray).data.toList = a from rfl, hv0] at R0
  have R1 := Lib.hid (l01Read_ok ⟨b.toArray⟩ (by rw [data_size]; exact hb) k1)
  rw [show (⟨b.toArray⟩ : ByteArray).data.toList = b from rfl, hv1] at R1
  have R2 := Lib.hid (l01Read_ok ⟨c.toArray⟩ (by rw [data_size]; exact hc) k2)
  rw [show (⟨c.toArray⟩ : ByteArray).data.toList = c from rfl, hv2] at R2
  have hN := l01Number_any ⟨d.toArray⟩ (by rw [data_size]; exact hd)
  rw [show (⟨d.toArray⟩ : ByteArray).data.toList = d from rfl, k3] at hN
  have HNM := Lib.hid hN
  obtain ⟨r, hr⟩ : ∃ r, nmV d 0 = r := ⟨_, rfl⟩
  rw [hr] at k4 k5 HNM
  have x4 : (r : Int) ≤ 1 := by omega
  have x5 : (0 : Int) ≤ (r : Int) := by omega
  have K5 := Lib.hid k5
  have HRR := Lib.hid hr
  clear hN hd k3 hr k5
  clear hx hs ha hb hc k0 k1 k2 hv0 hv1 hv2
  go_enter Tryd.func9, Tryd.ntmps9
  go_wp2_with (go_at_call 30; refine (HSP.out _).mono ?_; rintro e w1 ⟨A, k, rfl, hC, hb1⟩; obtain ⟨g, off, rfl, hg, c0, c1, c2, c3⟩ := row4 hC; clear hC; have hc1 := bc hb1; have hf1 := bf hb1; have hs1 := hb1.size; (try simp at hs1); (try have hz10 : w.heap.size < w1.heap.size := by omega); (try have hz11 : w.heap.size + 1 < w1.heap.size := by omega); (try have hz12 : w.heap.size + 1 + 1 < w1.heap.size := by omega); (try have hz13 : w.heap.size + 1 + 1 + 1 < w1.heap.size := by omega))
  refine wp_loop_rounds 4 ?_
  rw [rounds_succ]
  go_wp2_with (go_at_call 31; refine (R0.out _).mono ?_; rintro e w2 ⟨rfl, rfl⟩)
  rw [rounds_succ]
  go_wp2_with (go_at_call 31; refine (R1.out _).mono ?_; rintro e w2 ⟨rfl, rfl⟩)
  rw [rounds_succ]
  go_wp2_with (go_at_call 31; refine (R2.out _).mono ?_; rintro e w2 ⟨rfl, rfl⟩)
  rw [rounds_succ]
  go_wp2_with (first | (go_at_call 32; refine (HNM.out _).mono ?_; rintro e w2 ⟨⟨r0, rfl, h0⟩, rfl⟩; obtain rfl := h0 rfl) | (go_at_call 25; refine (okTooth_spec _ _ _ _ (by omega) (by omega) _).mono ?_; rintro e w3 ⟨rfl, hb3⟩; rw [K5.out]; have hc3 := bc hb3; have hf3 := bf hb3; have hs3 := hb3.size; (try simp at hs3); (try have hz30 : w.heap.size < w3.heap.size := by omega); (try have hz31 : w.heap.size + 1 < w3.heap.size := by omega); (try have hz32 : w.heap.size + 1 + 1 < w3.heap.size := by omega); (try have hz33 : w.heap.size + 1 + 1 + 1 < w3.heap.size := by omega); (try have hy320 : w2.heap.size < w3.heap.size := by omega); (try have hy321 : w2.heap.size + 1 < w3.heap.size := by omega); (have k30 : w3.cell? ⟨w.heap.size, 0, none⟩ = some (.float .f32 0) := (hc3 w.heap.size 0 (by first | omega | (simp; omega))).trans (by go_simp)); (have f30 := hf3 w.heap.size 0 (by first | omega | (simp; omega))); (have k31 : w3.cell? ⟨w.heap.size, 1, none⟩ = some (.float .f32 0) := (hc3 w.heap.size 1 (by first | omega | (simp; omega))).trans (by go_simp)); (have f31 := hf3 w.heap.size 1 (by first | omega | (simp; omega))); (have k32 : w3.cell? ⟨w.heap.size, 2, none⟩ = some (.float .f32 0) := (hc3 w.heap.size 2 (by first | omega | (simp; omega))).trans (by go_simp)); (have f32 := hf3 w.heap.size 2 (by first | omega | (simp; omega))); (have k33 : w3.cell? ⟨w.heap.size, 3, none⟩ = some (.int .i8 0) := (hc3 w.heap.size 3 (by first | omega | (simp; omega))).trans (by go_simp)); (have f33 := hf3 w.heap.size 3 (by first | omega | (simp; omega))); (have l30 := hc3 (w1.heap.size + 1) 0 (by first | omega | (simp; done) | (simp; omega))); (have l31 := hc3 (w1.heap.size + 1) 1 (by first | omega | (simp; done) | (simp; omega))); (have l32 := hc3 (w1.heap.size + 1) 2 (by first | omega | (simp; done) | (simp; omega))); (have l33 := hc3 (w1.heap.size + 1) 3 (by first | omega | (simp; done) | (simp; omega)))))
  refine bodyPost_ret (v := .tuple #[.agg #[.float .f32 v0, .float .f32 v1, .float .f32 v2, .int .i8 (r : Int)], .int .i64 0]) (by simp only [results, Tryd.results9]; first | (go_simp; done) | (go_simp; rfl)) rfl ⟨_, _, _, _, _, rfl, ⟨rfl, rfl, rfl, by rw [HRR.out], rfl⟩, ?_⟩
  (repeat (first | with_reducible exact Below.refl _ _ | with_reducible refine bset ?_ (by first | (simp; done) | (simp; omega) | omega) _ | with_reducible refine balloc ?_ _ | with_reducible refine bdrewN ?_ _ | with_reducible refine bdrew ?_ | with_reducible refine bstep ?_ (by assumption)))
end Go.Proofs.YtljcjgliddhgkaaDoor
