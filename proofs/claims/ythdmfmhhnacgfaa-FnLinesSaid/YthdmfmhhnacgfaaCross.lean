/- How often swings have different signs: values, both walks, the law. -/
import Derived.Test.YthdmfmhhnacgfaaAns4
namespace Go.Proofs.Ythdmfmhhnacgfaa
open Go.RowKit Ieee
open Go.Proofs.YthdmfmhhnacgfaaW.PrintWords
set_option maxRecDepth 100000

def sgnV (x : Nat) : Int := if flt x 0 = true then -1 else if flt 0 x = true then 1 else 0
def apart (x y : Nat) : Bool := decide (sgnV x * sgnV y < 0)
def plainV (x : Nat) : Bool := fin 3380609024 1233125376 x
theorem flt_vl {r x c : Nat} (h : FV r x) (hc : cn c = c) : flt r c = flt x c := by rw [← flt_cn r c, hc, h.1]
theorem flt_vr {r x c : Nat} (h : FV r x) (hc : cn c = c) : flt c r = flt c x := by rw [← flt_cn c r, hc, h.1]
theorem flt_asymm (x : Nat) (h : flt x 0 = true) : flt 0 x = false := by
  unfold flt at *
  have h1 : single.order x 0 = some .lt := by simpa using h
  have h2 : single.order 0 x = some .gt := by rw [single_swap x 0, h1]; rfl
  rw [h2]; rfl
theorem sign_any (r x : Nat) (hr : FV r x) (w : World) :
    Calls Try.prog 24 #[.float .f32 r] w fun e w' => e = .returned (.int .i64 (sgnV x)) ∧ w = w' := by
  have q1 := flt_vl (c := 0) hr (by decide)
  have q2 := flt_vr (c := 0) hr (by decide)
  have HD : Hid (sgnV x = if flt x 0 = true then -1 else if flt 0 x = true then 1 else 0) := Lib.hid rfl
  clear hr
  go_enter Try.func24, Try.ntmps24
  go_wp2
  all_goals (go_ret; refine ⟨?_, rfl⟩; rw [HD.out]; simp [*])
theorem l07Apart_any (r x r' x' : Nat) (hr : FV r x) (hr' : FV r' x') (w : World) :
    Calls Try.prog 26 #[.float .f32 r, .float .f32 r'] w fun e w' => e = .returned (.bool (apart x x')) ∧ w = w' := by
  have q1 := flt_vl (c := 0) hr (by decide)
  have q2 := flt_vr (c := 0) hr (by decide)
  have q3 := flt_vl (c := 0) hr' (by decide)
  have q4 := flt_vr (c := 0) hr' (by decide)
  have HD : Hid (apart x x' = (flt x 0 && flt 0 x' || flt 0 x && flt x' 0)) := Lib.hid (by
    have a1 := flt_asymm x
    have a2 := flt_asymm x'
    unfold apart sgnV
    revert a1 a2
    cases flt x 0 <;> cases flt 0 x <;> cases flt x' 0 <;> cases flt 0 x' <;> simp)
  clear hr hr'
  go_enter Try.func26, Try.ntmps26
  go_wp2
  all_goals (go_ret; refine ⟨?_, rfl⟩; rw [HD.out]; first | (simp [*]; done) | (simp [*]; rename_i hlast; simpa using hlast))
theorem plain_spec (r x : Nat) (hr : FV r x) (w : World) :
    Calls Try.prog 25 #[.float .f32 r] w fun e w' => e = .returned (.bool (plainV x)) ∧ w = w' := by
  have q1 := fle_vr (c := 3380609024) hr (by decide)
  have q2 := fle_vl (c := 1233125376) hr (by decide)
  have HD : Hid (plainV x = (fle 3380609024 x && fle x 1233125376)) := Lib.hid rfl
  clear hr
  go_enter Try.func25, Try.ntmps25
  go_wp2
  all_goals (go_ret; refine ⟨?_, rfl⟩; rw [HD.out]; first | (simp [*]; done) | (simp [*]; rename_i hlast; simpa using hlast))
theorem plain_impl (r x : Nat) (hr : FV r x) (w : World) :
    Calls Try.prog 23 #[.float .f32 r] w fun e w' => e = .returned (.bool (plainV x)) ∧ w = w' := by
  have H := Lib.hid (fun w => between_v (l := 3380609024) (h := 1233125376) hr (by decide) (by decide) w)
  clear hr
  go_enter Try.func23, Try.ntmps23
  go_wp2_with (go_at_call 28; refine (H.out _).mono ?_; rintro e w' ⟨rfl, rfl⟩)
  go_ret
  exact ⟨rfl, rfl⟩
/-- Crossings from i on (d rounds), m so far; a number that is not plain ends it. -/
def crs (xs : List Nat) : Nat → Nat → Int → Int × Int
  | 0, _, m => (m, 0)
  | d + 1, i, m => if plainV (xs.getD i 0) = true then crs xs d (i + 1) (if 0 < i ∧ apart (xs.getD (i - 1) 0) (xs.getD i 0) = true then m + 1 else m) else (0, 4)
def crsO (l : List (Nat × Nat)) (q : Nat) : Int × Int :=
  if (outL l q).2.2 = 0 then crs (outL l q).1 (outL l q).1.length 0 0 else (0, (outL l q).2.2)
def CrQ (a : Int × Int) (w : World) (e : Ending) (w' : World) : Prop := e = .returned (.tuple #[.int .i64 a.1, .int .i64 a.2]) ∧ Below w.heap.size w w'
theorem crs_miss {xs : List Nat} {n i : Nat} {m : Int} (hi : i < n) (h : plainV (xs.getD i 0) = false) : crs xs (n - i) i m = (0, 4) := by
  obtain ⟨d, hd⟩ : ∃ d, n - i = d + 1 := ⟨n - i - 1, by omega⟩
  rw [hd, crs, if_neg (by simp only [h]; exact Bool.false_ne_true)]
theorem crs_hit {xs : List Nat} {n i : Nat} {m : Int} (hi : i < n) (h : plainV (xs.getD i 0) = true) :
    crs xs (n - i) i m = crs xs (n - (i + 1)) (i + 1) (if 0 < i ∧ apart (xs.getD (i - 1) 0) (xs.getD i 0) = true then m + 1 else m) := by
  obtain ⟨d, hd⟩ : ∃ d, n - i = d + 1 := ⟨n - i - 1, by omega⟩
  rw [hd, crs, if_pos h, show n - (i + 1) = d by omega]

set_option maxHeartbeats 8000000 in
theorem crossings_impl (A : Option Addr) (c : Nat) (l : List (Nat × Nat)) (q : Nat) (w : World) (hA : Kd.C kD w A l.length l) (hm : l.length ≤ 1048576) :
    Calls Try.prog 9 #[.slice A l.length c, .float .f32 q] w (CrQ (crsO l q) w) := by
  have hO := answerOf_impl A c l q w hA hm
  have hlen := (outL_len l q).1
  unfold crsO
  generalize outL l q = o at hO hlen ⊢
  obtain ⟨xs, ys, cd⟩ := o
  have HO := Lib.hid hO
  have hx : xs.length ≤ 10 := hlen
  clear hO hlen hA
  by_cases hc : cd = 0
  · subst hc
    obtain ⟨a, ha⟩ : ∃ a, a = crs xs xs.length 0 0 := ⟨_, rfl⟩
    have HE0 := Lib.hid (show crs xs (xs.length - 0) 0 0 = a from ha.symm)
    simp only [if_true]
    rw [← ha]
    clear ha
    go_enter Try.func9, Try.ntmps9
    go_wp2_with (go_at_call 7; refine (HO.out).mono ?_; rintro e w1 ⟨v1, v2, rfl, h1, h2, hn, hb1⟩; have H1 := Lib.hid h1; clear h1 h2 hn; obtain ⟨V, vc, rfl, hvc, hV⟩ := H1.out.reads; have HV := Lib.hid hV; clear hV)
    go_loopw [9, 24] (fun mm i wr => ∃ k : Nat, ∃ m : Int, k ≤ xs.length ∧ i = .int .i64 k ∧ mm = .int .i64 m ∧ 0 ≤ m ∧ m ≤ k ∧ Hid (crs xs (xs.length - k) k m = a) ∧ wr = w1) (fun _ i _ => xs.length - (intOf i).toNat)
    case atStart => exact ⟨0, 0, Nat.zero_le _, rfl, rfl, by omega, by omega, HE0, rfl⟩
    case round =>
      obtain ⟨k, m, hk, rfl, rfl, hm0, hm1, HE, rfl⟩ := hrel
      clear HE0
      by_cases hlt : k < xs.length
      · obtain ⟨b, off, r, rfl, hbl, d0, hr⟩ := at_kf HV.out k hlt
        have HP := Lib.hid (plain_impl r _ hr)
        cases hp : plainV (xs.getD k 0)
        · rw [hp] at HP
          have HD := Lib.hid ((crs_miss hlt hp).symm.trans HE.out)
          clear hp hr HE
          go_wp2_with (go_at_call 23; refine (HP.out _).mono ?_; rintro e w' ⟨rfl, rfl⟩)
          go_ret2
          exact ⟨by rw [← HD.out]; rfl, hb1⟩
        · rw [hp] at HP
          have HD := Lib.hid ((crs_hit hlt hp).symm.trans HE.out)
          clear hp HE
          cases k with
          | zero =>
            have HE2 := Lib.hid (show crs xs (xs.length - (0 + 1)) (0 + 1) m = a by have := HD.out; rwa [if_neg (by omega)] at this)
            clear hr HD
            simp only [Nat.add_zero] at d0
            go_wp2_with (go_at_call 23; refine (HP.out _).mono ?_; rintro e w' ⟨rfl, rfl⟩)
            go_roundw
            case rel => exact ⟨1, m, hlt, by go_num, rfl, hm0, by omega, HE2, by trivial⟩
            case measure => simp [intOf]; omega
          | succ j =>
            obtain ⟨b', off', r', hA', _, d0', hr'⟩ := at_kf HV.out j (by omega)
            cases hA'
            have hd2 := HD.out
            rw [show j + 1 - 1 = j from by omega] at hd2
            have HS1 := Lib.hid (sign_any r' _ hr')
            have HS2 := Lib.hid (sign_any r _ hr)
            have hap : apart (xs.getD j 0) (xs.getD (j + 1) 0) = decide (sgnV (xs.getD j 0) * sgnV (xs.getD (j + 1) 0) < 0) := rfl
            have hb1' : ∀ x, -1 ≤ sgnV x ∧ sgnV x ≤ 1 := fun x => by unfold sgnV; split <;> (try split) <;> omega
            have B1 := hb1' (xs.getD j 0)
            have B2 := hb1' (xs.getD (j + 1) 0)
            generalize sgnV (xs.getD j 0) = s1 at *
            generalize sgnV (xs.getD (j + 1) 0) = s2 at *
            have hp1 : -1 ≤ s1 * s2 ∧ s1 * s2 ≤ 1 := by
              have e1 : s1 = -1 ∨ s1 = 0 ∨ s1 = 1 := by omega
              rcases e1 with rfl | rfl | rfl <;> omega
            obtain ⟨hp1, hp2⟩ := hp1
            have hj1 : (j : Int) < (xs.length : Int) := by omega
            by_cases hneg : s1 * s2 < 0
            · have ht : apart (xs.getD j 0) (xs.getD (j + 1) 0) = true := by rw [hap]; exact decide_eq_true hneg
              rw [if_pos ⟨by omega, ht⟩] at hd2
              have HE2 := Lib.hid hd2
              clear hd2 HD ht hap hr hr' B1 B2
              go_wp2_with (go_at_call 23; refine (HP.out _).mono ?_; rintro e w' ⟨rfl, rfl⟩)
              go_at_call 24
              refine (HS1.out _).mono ?_
              rintro e w' ⟨rfl, rfl⟩
              go_wp2_with fail
              go_at_call 24
              refine (HS2.out _).mono ?_
              rintro e w' ⟨rfl, rfl⟩
              go_wp2
              go_roundw
              case rel => exact ⟨j + 1 + 1, m + 1, hlt, by go_num, by go_num, by omega, by omega, HE2, by trivial⟩
              case measure => simp [intOf]; omega
            · have ht : apart (xs.getD j 0) (xs.getD (j + 1) 0) = false := by rw [hap]; exact decide_eq_false hneg
              rw [if_neg (by rw [ht]; simp)] at hd2
              have HE2 := Lib.hid hd2
              clear hd2 HD ht hap hr hr' B1 B2
              go_wp2_with (go_at_call 23; refine (HP.out _).mono ?_; rintro e w' ⟨rfl, rfl⟩)
              go_at_call 24
              refine (HS1.out _).mono ?_
              rintro e w' ⟨rfl, rfl⟩
              go_wp2_with fail
              go_at_call 24
              refine (HS2.out _).mono ?_
              rintro e w' ⟨rfl, rfl⟩
              go_wp2
              go_roundw
              case rel => exact ⟨j + 1 + 1, m, hlt, by go_num, rfl, by omega, by omega, HE2, by trivial⟩
              case measure => simp [intOf]; omega
      · obtain rfl : k = xs.length := by omega
        have hd : (m, (0 : Int)) = a := by have := HE.out; rwa [Nat.sub_self] at this
        have HD := Lib.hid hd
        clear hd HE
        go_wp2
        go_ret2
        exact ⟨by rw [← HD.out]; rfl, hb1⟩
  · have h0 : (if cd = 0 then crs xs xs.length 0 0 else ((0 : Int), cd)) = (0, cd) := if_neg hc
    simp only [if_neg hc]
    have hne : ((cd : Int) != 0) = true := by rw [bne_iff_ne]; exact hc
    clear h0
    go_enter Try.func9, Try.ntmps9
    go_wp2_with (go_at_call 7; refine (HO.out).mono ?_; rintro e w1 ⟨v1, v2, rfl, h1, h2, hn, hb1⟩; clear h1 h2 hn)
    go_ret2
    exact ⟨rfl, hb1⟩
end Go.Proofs.Ythdmfmhhnacgfaa
