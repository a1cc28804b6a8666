/- Choices: wheels and parts. -/
import Derived.Test.YtpkmmelinfcdaaaDrw2
import Derived.Test.YtpkmmelinfcdaaaMono
import Derived.Test.YtpkmmelinfcdaaaTrain
import Derived.Test.YtpkmmelinfcdaaaPlay
namespace Go.Proofs.Ytpkmmelinfcdaaa
open Go.RowKit Ieee
open Go.Proofs.YtpkmmelinfcdaaaW.PrintWords
set_option maxRecDepth 100000

/-! ### floats of whole numbers rise -/
theorem fi_pos (n : Nat) (hn : n ≠ 0) : fi (n : Int) = rungOf single single.leastPlace (n * 2 ^ (0 - single.leastPlace).toNat) := by
  unfold fi floatOfInt FloatKind.nearest
  show single.nearest (decide ((n : Int) < 0)) (n : Int).natAbs 0 = _
  rw [show decide ((n : Int) < 0) = false from by simp, Int.natAbs_natCast, nearest_rungOf single false hn 0 single.leastPlace (by decide) (Int.le_refl _), word_false]
theorem fi_zero : fi 0 = 0 := by decide
theorem fi_mono {a b : Int} (h0 : 0 ≤ a) (h : a ≤ b) : fi a ≤ fi b := by
  obtain ⟨m, rfl⟩ : ∃ m : Nat, a = m := ⟨a.toNat, by omega⟩
  obtain ⟨n, rfl⟩ : ∃ m : Nat, b = m := ⟨b.toNat, by omega⟩
  by_cases hm : m = 0
  · subst hm; rw [show ((0 : Nat) : Int) = 0 from rfl, fi_zero]; omega
  · rw [fi_pos m hm, fi_pos n (by omega)]
    refine rungOf_mono single (Int.le_refl _) (fun h => ?_) (Nat.mul_le_mul_right _ (by omega))
    rcases Nat.mul_eq_zero.mp h with h | h
    · exact hm h
    · exact absurd h (Nat.ne_of_gt (Nat.two_pow_pos _))
/-- A part. -/
def isPt (x : Nat) : Prop := x ≤ 1065353216
theorem isPt.nn {x : Nat} (h : isPt x) : nn x := by unfold isPt at h; unfold Proofs.Ytpkmmelinfcdaaa.nn; omega
theorem isPt_part {x : Nat} (h : isPt x) : part x = true := by
  unfold part fin
  rw [nn_fle (show nn 0 from by unfold nn; omega) h.nn, nn_fle h.nn (show nn 1065353216 from by unfold nn; omega)]
  unfold isPt at h
  simp [h]
theorem pick_part {v n : Int} {y : Nat} (h0 : 0 ≤ v) (h : v ≤ n) (hy : fi n = y) (hy0 : 0 < y) (hy1 : y < infW) : isPt (fdiv (fi v) y) := (fdiv_le_one hy0 hy1 (hy ▸ fi_mono h0 h)).2
def ToneQ (k g m : Nat) (w : World) (e : Ending) (w' : World) : Prop := ∃ r x, e = .returned (.float .f32 r) ∧ FV r x ∧ isPt x ∧ Gr g w w' ∧ Src w' g (m + k)
theorem FV.at {r x y : Nat} (h : FV r x) (e : x = y) : FV r y := e ▸ h

theorem among_any (g m : Nat) (A : Option Addr) (c : Nat) (xs : List Int) (w : World) (h : Src w g m) (hm : m ≤ 1000000000) (hA : Kd.C (Kd.int .i64) w A xs.length xs) (hf : ∀ ad, A = some ad → 0 < xs.length → ad.block ≠ g) (hn : 1 ≤ xs.length) (hn2 : xs.length ≤ 1000) :
    Calls Try.prog 67 #[.pointer (some ⟨g, 0, none⟩), .slice A xs.length c] w fun e w' => ∃ i, i < xs.length ∧ e = .returned (.int .i64 (xs.getD i 0)) ∧ Gr g w w' ∧ Src w' g (m + 2) := by
  have HS := Lib.hid h
  have HA := Lib.hid hA
  clear h hA
  go_enter Try.func67, Try.ntmps67
  go_wp2_with fail
  go_at_call 42
  refine (pick_any g m (xs.length : Int) _ HS.out (by omega) (by omega) (by omega)).mono ?_
  rintro e w1 ⟨x, rfl, hx0, hx1, hG1, hS1⟩
  obtain ⟨i, rfl⟩ : ∃ i : Nat, x = i := ⟨x.toNat, by omega⟩
  have hi : i < xs.length := by omega
  have hC1 : Kd.C (Kd.int .i64) w1 A xs.length xs := Go.Proofs.YtpkmmelinfcdaaaW.PrintWords.Kd.C_foot_ne (fun h => h) HA.out hf w1 hG1.keep
  obtain ⟨b, off, cs, rfl, hb, _, hK, hc⟩ := C_at hC1 (show 0 < (Kd.int .i64).sz by decide) 0 i hi
  have hK' : cs = [.int .i64 (xs.getD i 0)] := hK
  subst hK'
  have d0 : w1.cell? ⟨b, off + i, none⟩ = some (.int .i64 (xs.getD i 0)) := by
    have := hc 0 _ rfl
    rw [show off + i = off + i * (Kd.int .i64).sz + 0 from by show _ = off + i * 1 + 0; omega]
    exact this
  replace hS1 := Lib.hid hS1
  clear hc hC1 HA
  obtain ⟨z, hz⟩ : ∃ z, z = xs.getD i 0 := ⟨_, rfl⟩
  rw [← hz] at d0
  replace hz := Lib.hid hz
  go_wp2
  go_ret
  exact ⟨i, hi, by rw [← hz.out]; rfl, hG1, hS1.out⟩
theorem Src.below {w W : World} {g m : Nat} (h : Src w g m) (hb : Below w.heap.size w W) : Src W g m := by
  obtain ⟨A, c, xs, k, sd, c0, c1, c2, f1, f2, hg, hk, hC⟩ := h
  exact ⟨A, c, xs, k, sd, by rw [bc hb g 0 hg]; exact c0, by rw [bc hb g 1 hg]; exact c1, by rw [bc hb g 2 hg]; exact c2, by rw [bf hb _ _ hg]; exact f1, by rw [bf hb _ _ hg]; exact f2, Nat.lt_of_lt_of_le hg hb.size, hk, ⟨Kd.C_below hC.row hb, hC.far, hC.bound, hC.len⟩⟩
theorem C_lit (w : World) (xs : List Int) (t : Nat) (hl : xs.length ≤ 1000) : Kd.C (Kd.int .i64) (w.alloc (.cells (xs.map (Value.int .i64)).toArray t)) (some ⟨w.heap.size, 0, none⟩) xs.length xs := by
  refine ⟨rfl, by omega, fun _ => ⟨_, rfl, fun j p hj => ⟨[.int .i64 p], rfl, rfl, fun i u hu => ?_⟩⟩⟩
  obtain ⟨rfl, rfl⟩ : i = 0 ∧ u = .int .i64 p := by
    cases i with
    | zero => exact ⟨rfl, by simpa using hu.symm⟩
    | succ i => simp at hu
  rw [show (⟨w.heap.size, 0, none⟩ : Addr).add (j * (Kd.int .i64).sz + 0) = ⟨w.heap.size, j, none⟩ from by show Addr.add _ (j * 1 + 0) = _; simp [Addr.add]; try omega]
  rw [World.cell?_alloc_at _ _ _ _ rfl, List.getElem?_toArray, List.getElem?_map, hj]
  rfl
def wheels : List Int := [6, 8, 10, 12, 15, 16, 20, 24, 25, 30, 37, 48, 60, 96, 127, 200]
def WheelQ (g m : Nat) (w : World) (e : Ending) (w' : World) : Prop := ∃ i, i < 16 ∧ e = .returned (.int .i16 (wheels.getD i 0)) ∧ Gr g w w' ∧ Src w' g (m + 2)
theorem wheels_bound : ∀ i, i < 16 → 6 ≤ wheels.getD i 0 ∧ wheels.getD i 0 ≤ 200 := by decide
theorem l01Wheel_any (g m : Nat) (w : World) (h : Src w g m) (hm : m ≤ 1000000000) :
    Calls Try.prog 52 #[.pointer (some ⟨g, 0, none⟩)] w (WheelQ g m w) := by
  have HS := Lib.hid h
  have HC : Hid (Kd.C (Kd.int .i64) (w.alloc (.cells #[.int .i64 6, .int .i64 8, .int .i64 10, .int .i64 12, .int .i64 15, .int .i64 16, .int .i64 20, .int .i64 24, .int .i64 25, .int .i64 30, .int .i64 37, .int .i64 48, .int .i64 60, .int .i64 96, .int .i64 127, .int .i64 200] 2)) (some ⟨w.heap.size, 0, none⟩) wheels.length wheels) := Lib.hid (C_lit w wheels 2 (by decide))
  have hlt := h.lt
  clear h
  go_enter Try.func52, Try.ntmps52
  go_wp2_with fail
  go_at_call 67
  refine (among_any g m _ 16 wheels _ (HS.out.below (balloc (Below.refl _ _) _)) hm HC.out (by intro ad he _; injection he with he; subst he; show w.heap.size ≠ g; omega) (by decide) (by decide)).mono ?_
  rintro e w1 ⟨i, hi, rfl, hG1, hS1⟩
  have hi' : i < 16 := hi
  obtain ⟨b1, b2⟩ := wheels_bound i hi'
  obtain ⟨z, hz⟩ : ∃ z, z = wheels.getD i 0 := ⟨_, rfl⟩
  rw [← hz] at b1 b2 ⊢
  replace hz := Lib.hid hz
  replace hS1 := Lib.hid hS1
  replace hG1 := Lib.hid hG1
  go_wp2
  go_ret
  exact ⟨i, hi', by rw [← hz.out]; rfl, ((Gr.refl g w).alloc _).then hG1.out, hS1.out⟩
theorem l01Tone_any (g m : Nat) (w : World) (h : Src w g m) (hm : m ≤ 900000000) :
    Calls Try.prog 53 #[.pointer (some ⟨g, 0, none⟩)] w (ToneQ 4 g m w) := by
  have HS := Lib.hid h
  clear h
  go_enter Try.func53, Try.ntmps53
  go_wp2_with fail
  go_at_call 42
  refine (pick_any g m 4 _ HS.out (by omega) (by omega) (by omega)).mono ?_
  rintro e w1 ⟨x, rfl, hx0, hx1, hG1, hS1⟩
  replace hS1 := Lib.hid hS1
  by_cases h0 : x = 0
  · subst h0
    go_wp2_with fail
    go_at_call 42
    refine (pick_any g (m + 2) 17 _ hS1.out (by omega) (by omega) (by omega)).mono ?_
    rintro e w2 ⟨y, rfl, hy0, hy1, hG2, hS2⟩
    replace hS2 := Lib.hid hS2
    go_wp2_with (refine wpList_fop (o := ⟨some 10, _, _, _, _, _⟩) rfl rfl (by first | exact .inl rfl | exact .inr (.inl rfl) | exact .inr (.inr (.inl rfl)) | exact .inr (.inr (.inr rfl))) rfl rfl ?_; intro r10 n10 h10)
    rw [cn_fi] at h10
    go_ret
    exact ⟨r10, _, rfl, h10, pick_part hy0 (show y ≤ 16 by omega) (by decide) (by decide) (by decide), (hG1.then hG2).drewN _, hS2.out.below (bdrewN (Below.refl _ _) _)⟩
  by_cases h1 : x = 1
  · subst h1
    go_wp2_with fail
    go_at_call 42
    refine (pick_any g (m + 2) 1001 _ hS1.out (by omega) (by omega) (by omega)).mono ?_
    rintro e w2 ⟨y, rfl, hy0, hy1, hG2, hS2⟩
    replace hS2 := Lib.hid hS2
    go_wp2_with (refine wpList_fop (o := ⟨some 16, _, _, _, _, _⟩) rfl rfl (by first | exact .inl rfl | exact .inr (.inl rfl) | exact .inr (.inr (.inl rfl)) | exact .inr (.inr (.inr rfl))) rfl rfl ?_; intro r16 n16 h16)
    rw [cn_fi] at h16
    go_ret
    exact ⟨r16, _, rfl, h16, pick_part hy0 (show y ≤ 1000 by omega) (by decide) (by decide) (by decide), (hG1.then hG2).drewN _, hS2.out.below (bdrewN (Below.refl _ _) _)⟩
  · go_wp2_with fail
    go_at_call 42
    refine (pick_any g (m + 2) 1048576 _ hS1.out (by omega) (by omega) (by omega)).mono ?_
    rintro e w2 ⟨y, rfl, hy0, hy1, hG2, hS2⟩
    replace hS2 := Lib.hid hS2
    go_wp2_with (refine wpList_fop (o := ⟨some 20, _, _, _, _, _⟩) rfl rfl (by first | exact .inl rfl | exact .inr (.inl rfl) | exact .inr (.inr (.inl rfl)) | exact .inr (.inr (.inr rfl))) rfl rfl ?_; intro r20 n20 h20)
    rw [cn_fi] at h20
    go_ret
    exact ⟨r20, _, rfl, h20, pick_part hy0 (show y ≤ 1048576 by omega) (by decide) (by decide) (by decide), (hG1.then hG2).drewN _, hS2.out.below (bdrewN (Below.refl _ _) _)⟩
end Go.Proofs.Ytpkmmelinfcdaaa
