/- Play along a train: contracts. -/
import Derived.Test.YtpkmmelinfcdaaaTrain
namespace Go.Proofs.Ytpkmmelinfcdaaa
open Go.RowKit Ieee
open Go.Proofs.YtpkmmelinfcdaaaW.PrintWords
set_option maxRecDepth 100000

@[go_sem high] theorem conv_fi16 {P : Program} (w : World) (src dst : TypeId) (n : Int) (hs : (P.underlying src).isSome = true) (hd : P.underlying dst = some (.float .f32)) :
    (convert src dst (.int .i16 n)).run P w = .ok (.float .f32 (fi n)) w := run_convert_int_float w src dst .i16 .f32 n hs hd
theorem cn_fi (n : Int) : cn (fi n) = fi n := cn_of_not (fi_isn n)
def upV (p q : Int) : Nat := fdiv (fi p) (fi q)
def UpQ (p q : Int) (w : World) (e : Ending) (w' : World) : Prop := ∃ r, e = .returned (.float .f32 r) ∧ FV r (upV p q) ∧ Drew w w'
/-- A float of a value, whichever word. -/
def DFv (x : Nat) : Option Tmp → Value → Prop := fun _ v => ∃ r, v = .float .f32 r ∧ FV r x

theorem quotient_any (p q : Int) (w : World) :
    Calls Try.prog 50 #[.int .i16 p, .int .i16 q] w (UpQ p q w) := by
  go_enter Try.func50, Try.ntmps50
  go_wp2_with (refine wpList_fop (o := ⟨some 9, _, _, _, _, _⟩) rfl rfl (by first | exact .inl rfl | exact .inr (.inl rfl) | exact .inr (.inr (.inl rfl)) | exact .inr (.inr (.inr rfl))) rfl rfl ?_; intro r9 n9 h9)
  have hv : FV r9 (upV p q) := by rw [cn_fi, cn_fi] at h9; exact h9
  go_ret
  exact ⟨r9, rfl, hv, Drew.mk _ _⟩
theorem up_any (b off : Nat) (p q : Int) (w : World) (c0 : w.cell? ⟨b, off, none⟩ = some (.int .i16 p)) (c1 : w.cell? ⟨b, off + 1, none⟩ = some (.int .i16 q)) :
    Calls Try.prog 51 #[.pointer (some ⟨b, off, none⟩)] w (UpQ p q w) := by
  go_enter Try.func51, Try.ntmps51
  go_wp2
  first | refine region_drewN (DIs (.bool true)) (by kernel_rfl) (by kernel_rfl) ?_ | refine region_drew (DIs (.bool true)) (by kernel_rfl) (by kernel_rfl) ?_
  repeat (first | (refine wpRel_plain (o := ⟨some 13, _, _, _, _, _⟩) rfl (fun K hK => ?_); refine relOp_fop (drewN_Drew_closed _) rfl (by first | exact .inl rfl | exact .inr (.inl rfl) | exact .inr (.inr (.inl rfl)) | exact .inr (.inr (.inr rfl))) rfl rfl (fun r13 h13 => hK _ ?_); clear hK K) | (refine wpRel_plain rfl (fun K hK => ?_); intro w' hw'; obtain ⟨n', rfl⟩ := hw'; go_simp; refine ⟨Drew.mk _ _, hK _ ?_⟩; clear hK K n'))
  (refine wpRel_nil ?_; intro w' hw'; obtain ⟨nq, rfl⟩ := hw')
  have hv : FV r13 (upV p q) := by rw [cn_fi, cn_fi] at h13; exact h13
  go_wp2
  go_ret
  exact ⟨r13, rfl, hv, Drew.mk _ _⟩

/-! ### plays that are as told -/
def playsOk (n : Nat) (ps : List Nat) : Bool := decide (ps.length = n) && ps.all part
theorem l06Plays_any (A B : Option Addr) (c c' : Nat) (n : Nat) (ps : List Nat) (w : World) (hB : Kd.C kf w B ps.length ps) (hm : ps.length ≤ 1048576) (hn : n ≤ 1048576) :
    Calls Try.prog 36 #[.slice A n c, .slice B ps.length c'] w fun e w' => e = .returned (.bool (playsOk n ps)) ∧ w = w' := by
  have HB : Hid (Kd.C kf w B ps.length ps) := Lib.hid hB
  clear hB
  go_enter Try.func36, Try.ntmps36
  go_wp2
  go_loop [5] (fun i => ∃ k : Nat, k ≤ ps.length ∧ i = .int .i64 k ∧ Hid ((ps.take k).all part = true)) (fun i => ps.length - (intOf i).toNat)
  case atStart => exact ⟨0, Nat.zero_le _, rfl, Lib.hid (by simp)⟩
  case round =>
    obtain ⟨k, hk, rfl, HK⟩ := hrel
    by_cases hlt : k < ps.length
    · obtain ⟨b, off, r, rfl, hbl, d0, hr⟩ := at_kf HB.out k hlt
      have HP : Hid (∀ w : World, Calls Try.prog 49 #[.float .f32 r] w fun e w' => e = .returned (.bool (part (ps.getD k 0))) ∧ w = w') := Lib.hid (fun w => by have := part_any r w; rwa [part_v hr] at this)
      clear hr
      cases hp : part (ps.getD k 0)
      · rw [hp] at HP
        have HD := Lib.hid hp
        clear hp
        go_wp2_with (go_at_call 49; refine (HP.out _).mono ?_; rintro e w' ⟨rfl, rfl⟩)
        go_ret
        exact ⟨by unfold playsOk; rw [all_false hlt HD.out, Bool.and_false]; rfl, rfl⟩
      · rw [hp] at HP
        have HD := Lib.hid hp
        clear hp
        go_wp2_with (go_at_call 49; refine (HP.out _).mono ?_; rintro e w' ⟨rfl, rfl⟩)
        go_round
        case rel => exact ⟨k + 1, by omega, by go_num, Lib.hid (take_all_succ hlt HK.out HD.out)⟩
        case measure => simp [intOf]; omega
    · have e : ps.take k = ps := List.take_of_length_le (by omega)
      rw [e] at HK
      go_wp2
      go_ret
      refine ⟨?_, rfl⟩
      unfold playsOk
      rw [HK.out]
      simp [cast_eq_nat]
theorem arePlays1_any (r x : Nat) (hr : FV r x) (w : World) :
    Calls Try.prog 66 #[.float .f32 r] w fun e w' => e = .returned (.bool (!part x)) ∧ w = w' := by
  have HP : Hid (∀ w : World, Calls Try.prog 63 #[.float .f32 r] w fun e w' => e = .returned (.bool (part x)) ∧ w = w') := Lib.hid (fun w => by have := isPart_any r w; rwa [part_v hr] at this)
  clear hr
  go_enter Try.func66, Try.ntmps66
  go_wp2_with (go_at_call 63; refine (HP.out _).mono ?_; rintro e w' ⟨rfl, rfl⟩)
  go_ret
  exact ⟨rfl, rfl⟩
set_option maxHeartbeats 4000000 in
theorem indexF_any (A : Option Addr) (c : Nat) (l : List Nat) (w : World) (hA : Kd.C kf w A l.length l) (hm : l.length ≤ 1048576) :
    Calls Try.prog 70 #[.slice A l.length c, .func (.func 66) #[] #[]] w (IdxQ (!l.all part) w) := by
  have HA : Hid (Kd.C kf w A l.length l) := Lib.hid hA
  clear hA
  go_enter Try.func70, Try.ntmps70
  go_wp2
  go_loop [8] (fun i => ∃ k : Nat, k ≤ l.length ∧ i = .int .i64 k ∧ Hid ((l.take k).all part = true)) (fun i => l.length - (intOf i).toNat)
  case atStart => exact ⟨0, Nat.zero_le _, rfl, Lib.hid (by simp)⟩
  case round =>
    obtain ⟨k, hk, rfl, HK⟩ := hrel
    by_cases hlt : k < l.length
    · obtain ⟨b, off, r, rfl, hbl, d0, hr⟩ := at_kf HA.out k hlt
      have HC := Lib.hid (arePlays1_any r _ hr)
      clear hr
      cases hp : part (l.getD k 0)
      · rw [hp] at HC
        have HD := Lib.hid hp
        clear hp
        go_wp2_with (go_at_call 66; refine (HC.out _).mono ?_; rintro e w' ⟨rfl, rfl⟩)
        go_ret
        exact ⟨_, rfl, by rw [all_false hlt HD.out]; simp, Below.refl _ _⟩
      · rw [hp] at HC
        have HD := Lib.hid hp
        clear hp
        go_wp2_with (go_at_call 66; refine (HC.out _).mono ?_; rintro e w' ⟨rfl, rfl⟩)
        go_round
        case rel => exact ⟨k + 1, by omega, by go_num, Lib.hid (take_all_succ hlt HK.out HD.out)⟩
        case measure => simp [intOf]; omega
    · have e : l.take k = l := List.take_of_length_le (by omega)
      rw [e] at HK
      go_wp2
      go_ret
      exact ⟨_, rfl, by rw [HK.out]; simp, Below.refl _ _⟩
theorem containsF_any (A : Option Addr) (c : Nat) (l : List Nat) (w : World) (hA : Kd.C kf w A l.length l) (hm : l.length ≤ 1048576) :
    Calls Try.prog 65 #[.slice A l.length c, .func (.func 66) #[] #[]] w fun e w' => e = .returned (.bool (!l.all part)) ∧ Below w.heap.size w w' := by
  have HI := Lib.hid (indexF_any A c l w hA hm)
  clear hA
  go_enter Try.func65, Try.ntmps65
  go_wp2_with (go_at_call 70; refine (HI.out).mono ?_; rintro e w1 ⟨i, rfl, hi, hb1⟩; have HX := Lib.hid hi; clear hi)
  go_ret
  exact ⟨by rw [← HX.out]; rfl, hb1⟩
theorem arePlays_any (A B : Option Addr) (c c' : Nat) (n : Nat) (ps : List Nat) (w : World) (hB : Kd.C kf w B ps.length ps) (hm : ps.length ≤ 1048576) (hn : n ≤ 1048576) :
    Calls Try.prog 48 #[.slice A n c, .slice B ps.length c'] w fun e w' => e = .returned (.bool (playsOk n ps)) ∧ Below w.heap.size w w' := by
  have HA := Lib.hid (containsF_any B c' ps w hB hm)
  clear hB
  by_cases h : ps.length = n
  · subst h
    have hp : playsOk ps.length ps = ps.all part := by simp [playsOk]
    rw [hp]; clear hp
    generalize ps.all part = g at *
    go_enter Try.func48, Try.ntmps48
    go_wp2_with (go_at_call 65; refine (HA.out).mono ?_; rintro e w1 ⟨rfl, hb1⟩)
    go_ret
    exact ⟨by cases g <;> rfl, hb1⟩
  · have hp : playsOk n ps = false := by simp [playsOk, h]
    have hne : ((ps.length : Int) == (n : Int)) = false := by rw [beq_eq_false_iff_ne]; omega
    rw [hp]; clear hp
    go_enter Try.func48, Try.ntmps48
    go_wp2
    go_ret
    exact ⟨rfl, Below.refl _ _⟩
end Go.Proofs.Ytpkmmelinfcdaaa
