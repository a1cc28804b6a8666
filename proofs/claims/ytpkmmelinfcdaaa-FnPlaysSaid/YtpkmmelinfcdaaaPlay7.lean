/- The least and the greatest play: both sides. -/
import Derived.Test.YtpkmmelinfcdaaaPlay5
namespace Go.Proofs.Ytpkmmelinfcdaaa
open Go.RowKit Ieee
open Go.Proofs.YtpkmmelinfcdaaaW.PrintWords
set_option maxRecDepth 100000
attribute [local irreducible] wpRel

/-- No low of the first k is above its high. -/
def lhK (ls hs : List Nat) (k : Nat) : Bool := (List.range k).all fun i => !flt (hs.getD i 0) (ls.getD i 0)
theorem lhK_succ {ls hs : List Nat} {k : Nat} (h : lhK ls hs k = true) (h1 : flt (hs.getD k 0) (ls.getD k 0) = false) : lhK ls hs (k + 1) = true := by
  unfold lhK at *
  rw [List.range_succ, List.all_append, h]
  simp only [List.all_cons, List.all_nil, h1, Bool.not_false, Bool.and_true]
theorem lhK_false {ls hs : List Nat} {k n : Nat} (hk : k < n) (h1 : flt (hs.getD k 0) (ls.getD k 0) = true) : lhK ls hs n = false := by
  unfold lhK
  rw [List.all_eq_false]
  exact ⟨k, by simpa using hk, by show ¬ (!flt (hs.getD k 0) (ls.getD k 0)) = true; rw [h1]; decide⟩
def outLH (t : List (Int × Int × Nat)) (ls hs : List Nat) : Nat × Nat × Int :=
  if lhK ls hs ls.length = true then (alo t ls (t.length - 1), alo t hs (t.length - 1), 0) else (0, 0, 4)
def outPB (t : List (Int × Int × Nat)) (ls hs : List Nat) : Nat × Nat × Int :=
  if trainOk t = true then (if (playsOk t.length ls && playsOk t.length hs) = true then outLH t ls hs else (0, 0, 2)) else (0, 0, 1)
def PBQ (a : Nat × Nat × Int) (w : World) (e : Ending) (w' : World) : Prop := ∃ r s, e = .returned (.tuple #[.float .f32 r, .float .f32 s, .int .i64 a.2.2]) ∧ FV r a.1 ∧ FV s a.2.1 ∧ Below w.heap.size w w'
theorem flt_FV {r s x y : Nat} (hr : FV r x) (hs : FV s y) : flt r s = flt x y := by rw [← flt_cn r s, hr.1, hs.1]

set_option maxHeartbeats 4000000 in
theorem playBounds_spec (A B D : Option Addr) (c c' d : Nat) (t : List (Int × Int × Nat)) (ls hs : List Nat) (w : World) (hA : Kd.C kP w A t.length t) (hn : t.length ≤ 1048576) (hB : Kd.C kf w B ls.length ls) (hm : ls.length ≤ 1048576) (hD : Kd.C kf w D hs.length hs) (hm2 : hs.length ≤ 1048576) :
    Calls Try.prog 16 #[.slice A t.length c, .slice B ls.length c', .slice D hs.length d] w (PBQ (outPB t ls hs) w) := by
  have bad1 : ∀ k : Int, (k = 1 ∨ k = 2) → codeP (trainOk t) (playsOk t.length ls) = k → outPB t ls hs = (0, 0, k) → Calls Try.prog 16 #[.slice A t.length c, .slice B ls.length c', .slice D hs.length d] w (PBQ (outPB t ls hs) w) := by
    intro k hk hc ho
    rw [ho]
    have HC := Lib.hid (l06Asked_any A B c c' t ls k hc w hA hn hB hm)
    clear ho hc hA hB hD
    rcases hk with rfl | rfl
    all_goals
      go_enter Try.func16, Try.ntmps16
      go_wp2_with (go_at_call 30; refine (HC.out).mono ?_; rintro e w' ⟨rfl, rfl⟩)
      go_ret3
      exact ⟨0, 0, rfl, FV_zero, FV_zero, Below.refl _ _⟩
  cases ht : trainOk t
  · exact bad1 1 (.inl rfl) (by simp [codeP, ht]) (by simp [outPB, ht])
  · cases hp : playsOk t.length ls
    · exact bad1 2 (.inr rfl) (by simp [codeP, ht, hp]) (by simp [outPB, ht, hp])
    · have HC := Lib.hid (l06Asked_any A B c c' t ls 0 (by simp [codeP, ht, hp]) w hA hn hB hm)
      have HQ := Lib.hid (l06Plays_any A D c d t.length hs w hD hm2 hn)
      cases hp2 : playsOk t.length hs
      · have e1 : outPB t ls hs = (0, 0, 2) := by simp [outPB, ht, hp, hp2]
        rw [hp2] at HQ
        rw [e1]
        clear e1 ht hp hp2 bad1 hA hB hD
        go_enter Try.func16, Try.ntmps16
        go_wp2_with (first | (go_at_call 30; refine (HC.out).mono ?_; rintro e w' ⟨rfl, rfl⟩) | (go_at_call 36; refine (HQ.out).mono ?_; rintro e w' ⟨rfl, rfl⟩))
        go_ret3
        exact ⟨0, 0, rfl, FV_zero, FV_zero, Below.refl _ _⟩
      · have e1 : outPB t ls hs = outLH t ls hs := by simp [outPB, ht, hp, hp2]
        rw [hp2] at HQ
        rw [e1]
        have HLL := Lib.hid (playsOk_len hp)
        have HLH := Lib.hid (playsOk_len hp2)
        have h0 : 0 < t.length := by have := trainOk_len ht; omega
        have HE : Hid (∀ w1, Below w.heap.size w w1 → Calls Try.prog 31 #[.slice A t.length c, .slice B ls.length c'] w1 (EndQ (alo t ls (t.length - 1)) w1)) := Lib.hid (fun w1 hb => l06Last_any A B c c' t ls w1 (Kd.C_below hA hb) (Kd.C_below hB hb) (playsOk_len hp) h0 hn)
        have HF : Hid (∀ w1, Below w.heap.size w w1 → Calls Try.prog 31 #[.slice A t.length c, .slice D hs.length d] w1 (EndQ (alo t hs (t.length - 1)) w1)) := Lib.hid (fun w1 hb => l06Last_any A D c d t hs w1 (Kd.C_below hA hb) (Kd.C_below hD hb) (playsOk_len hp2) h0 hn)
        have HB := Lib.hid hB
        have HD := Lib.hid hD
        clear e1 ht hp hp2 bad1 hA hB hD h0
        go_enter Try.func16, Try.ntmps16
        go_wp2_with (first | (go_at_call 30; refine (HC.out).mono ?_; rintro e w' ⟨rfl, rfl⟩) | (go_at_call 36; refine (HQ.out).mono ?_; rintro e w' ⟨rfl, rfl⟩))
        clear HC HQ
        go_loopw [10] (fun i wr => ∃ k : Nat, k ≤ ls.length ∧ i = .int .i64 k ∧ Hid (lhK ls hs k = true) ∧ Below w.heap.size w wr) (fun i _ => ls.length - (intOf i).toNat)
        case atStart => exact ⟨0, Nat.zero_le _, rfl, Lib.hid (by simp [lhK]), Below.refl _ _⟩
        case round =>
          obtain ⟨k, hk, rfl, HK, hb⟩ := hrel
          by_cases hlt : k < ls.length
          · have hlt2 : k < hs.length := by have := HLL.out; have := HLH.out; omega
            have hlti : (k : Int) < (ls.length : Int) := by omega
            have hlti2 : (k : Int) < (hs.length : Int) := by omega
            obtain ⟨b1, o1, r1, rfl, hbl1, e1, hr1⟩ := at_kf HB.out k hlt
            obtain ⟨b2, o2, r2, rfl, hbl2, e2, hr2⟩ := at_kf HD.out k hlt2
            have f1 := (bc hb b1 (o1 + k) hbl1).trans e1
            have f2 := (bc hb b2 (o2 + k) hbl2).trans e2
            have l1 : b1 < wr.heap.size := Nat.lt_of_lt_of_le hbl1 hb.size
            have l2 : b2 < wr.heap.size := Nat.lt_of_lt_of_le hbl2 hb.size
            have HW := Lib.hid (flt_FV hr2 hr1)
            clear e1 e2 hr1 hr2
            cases hq : flt r2 r1
            · have HN := Lib.hid (HW.out.symm.trans hq)
              go_wp2
              first | refine region_drewN (DIs (.bool false)) (by kernel_rfl) (by kernel_rfl) ?_ | refine region_drew (DIs (.bool false)) (by kernel_rfl) (by kernel_rfl) ?_
              repeat (refine wpRel_plain rfl (fun K hK => ?_); intro w' hw'; obtain ⟨n', rfl⟩ := hw'; go_simp; refine ⟨Drew.mk _ _, hK _ ?_⟩; clear hK K n')
              (refine wpRel_nil ?_; intro w' hw'; obtain ⟨nq, rfl⟩ := hw')
              go_wp2
              go_roundw
              case rel => exact ⟨k + 1, by omega, by go_num, Lib.hid (lhK_succ HK.out HN.out), bdrewN hb _⟩
              case measure => simp [intOf]; omega
            · have HN := Lib.hid (HW.out.symm.trans hq)
              go_wp2
              first | refine region_drewN (DIs (.bool false)) (by kernel_rfl) (by kernel_rfl) ?_ | refine region_drew (DIs (.bool false)) (by kernel_rfl) (by kernel_rfl) ?_
              repeat (refine wpRel_plain rfl (fun K hK => ?_); intro w' hw'; obtain ⟨n', rfl⟩ := hw'; go_simp; refine ⟨Drew.mk _ _, hK _ ?_⟩; clear hK K n')
              (refine wpRel_nil ?_; intro w' hw'; obtain ⟨nq, rfl⟩ := hw')
              go_wp2
              go_ret3
              rw [show outLH t ls hs = (0, 0, 4) from by unfold outLH; rw [lhK_false hlt HN.out]; rfl]
              exact ⟨0, 0, rfl, FV_zero, FV_zero, bdrewN hb _⟩
          · have hkl : k = ls.length := by omega
            have HEQ : Hid (outLH t ls hs = (alo t ls (t.length - 1), alo t hs (t.length - 1), 0)) := Lib.hid (by unfold outLH; rw [← hkl, HK.out]; rfl)
            go_wp2_with fail
            go_at_call 31
            refine (HE.out _ hb).mono ?_
            rintro e w1 ⟨r, rfl, hr, hb1⟩
            have hb2 := bstep hb hb1
            go_wp2_with fail
            go_at_call 31
            refine (HF.out _ hb2).mono ?_
            rintro e w2 ⟨s, rfl, hsv, hb3⟩
            go_wp2
            go_ret3
            rw [HEQ.out]
            exact ⟨r, s, rfl, hr, hsv, bstep hb2 hb3⟩

theorem C_two {w : World} {g c d : Nat} {B D : Option Addr} {ps qs : List Nat} (hg : w.cell? ⟨g, 0, none⟩ = some (.slice B ps.length c)) (hg1 : w.cell? ⟨g, 1, none⟩ = some (.slice D qs.length d)) (hc : ps.length ≤ c) (hd : qs.length ≤ d) (hB : Kd.C kf w B ps.length ps) (hD : Kd.C kf w D qs.length qs) : Kd.C kS w (some ⟨g, 0, none⟩) [ps, qs].length [ps, qs] := by
  refine ⟨rfl, by simp, fun _ => ⟨_, rfl, fun j p hj => ?_⟩⟩
  match j, hj with
  | 0, hj =>
    simp at hj
    subst hj
    refine ⟨[.slice B ps.length c], rfl, ⟨B, c, rfl, hc, hB⟩, fun i u hu => ?_⟩
    match i, hu with
    | 0, hu => simp at hu; subst hu; simpa [Addr.add] using hg
  | 1, hj =>
    simp at hj
    subst hj
    refine ⟨[.slice D qs.length d], rfl, ⟨D, d, rfl, hd, hD⟩, fun i u hu => ?_⟩
    match i, hu with
    | 0, hu => simp at hu; subst hu; exact hg1
theorem playCode2 (A B D : Option Addr) (c c' d : Nat) (t : List (Int × Int × Nat)) (ps qs : List Nat) (k : Int) (hk : codeP (trainOk t) (playsOk t.length ps && playsOk t.length qs) = k) (w : World)
    (hA : Kd.C kP w A t.length t) (hn : t.length ≤ 1048576) (hB : Kd.C kf w B ps.length ps) (hc : ps.length ≤ c') (hm : ps.length ≤ 1048576) (hD : Kd.C kf w D qs.length qs) (hd : qs.length ≤ d) (hm2 : qs.length ≤ 1048576) :
    Calls Try.prog 33 #[.slice A t.length c, .slice (some ⟨w.heap.size, 0, none⟩) 2 2] (w.alloc (.cells #[.slice B ps.length c', .slice D qs.length d] 23)) fun e w' => e = .returned (.int .i64 k) ∧ Below w.heap.size w w' := by
  have hb : Below w.heap.size w (w.alloc (.cells #[.slice B ps.length c', .slice D qs.length d] 23)) := balloc (Below.refl _ _) _
  have := playCode_any A c t (some ⟨w.heap.size, 0, none⟩) 2 [ps, qs] k (by rw [← hk]; simp) (w.alloc (.cells #[.slice B ps.length c', .slice D qs.length d] 23)) (Kd.C_below hA hb) hn (C_two (by go_simp) (by go_simp) hc hd (Kd.C_below hB hb) (Kd.C_below hD hb)) (by simp) (fun i hi => by
    have hi2 : i < 2 := by simpa using hi
    match i, hi2 with
    | 0, _ => exact hm
    | 1, _ => exact hm2)
  exact this.mono fun e w' h => ⟨h.1, bstep hb h.2⟩
set_option maxHeartbeats 4000000 in
theorem playBounds_impl (A B D : Option Addr) (c c' d : Nat) (t : List (Int × Int × Nat)) (ls hs : List Nat) (w : World) (hA : Kd.C kP w A t.length t) (hn : t.length ≤ 1048576) (hB : Kd.C kf w B ls.length ls) (hc : ls.length ≤ c') (hm : ls.length ≤ 1048576) (hD : Kd.C kf w D hs.length hs) (hd : hs.length ≤ d) (hm2 : hs.length ≤ 1048576) :
    Calls Try.prog 17 #[.slice A t.length c, .slice B ls.length c', .slice D hs.length d] w (PBQ (outPB t ls hs) w) := by
  have bad : ∀ k : Int, (k = 1 ∨ k = 2) → codeP (trainOk t) (playsOk t.length ls && playsOk t.length hs) = k → outPB t ls hs = (0, 0, k) → Calls Try.prog 17 #[.slice A t.length c, .slice B ls.length c', .slice D hs.length d] w (PBQ (outPB t ls hs) w) := by
    intro k hk hcd ho
    rw [ho]
    have HC := Lib.hid (playCode2 A B D c c' d t ls hs k hcd w hA hn hB hc hm hD hd hm2)
    clear ho hcd hA hB hD
    rcases hk with rfl | rfl
    all_goals
      go_enter Try.func17, Try.ntmps17
      go_wp2_with (go_at_call 33; refine (HC.out).mono ?_; rintro e w1 ⟨rfl, hb1⟩)
      go_ret3
      exact ⟨0, 0, rfl, FV_zero, FV_zero, hb1⟩
  cases ht : trainOk t
  · exact bad 1 (.inl rfl) (by simp [codeP, ht]) (by simp [outPB, ht])
  · cases hpp : (playsOk t.length ls && playsOk t.length hs)
    · exact bad 2 (.inr rfl) (by simp only [codeP, ht, hpp]; rfl) (by simp only [outPB, ht, hpp]; rfl)
    · have e1 : outPB t ls hs = outLH t ls hs := by simp only [outPB, ht, hpp]; rfl
      have HC := Lib.hid (playCode2 A B D c c' d t ls hs 0 (by simp only [codeP, ht, hpp]; rfl) w hA hn hB hc hm hD hd hm2)
      have hp : playsOk t.length ls = true := by revert hpp; cases playsOk t.length ls <;> simp
      have hp2 : playsOk t.length hs = true := by revert hpp; cases playsOk t.length hs <;> simp
      rw [e1]
      have HLL := Lib.hid (playsOk_len hp)
      have HLH := Lib.hid (playsOk_len hp2)
      have h0 : 0 < t.length := by have := trainOk_len ht; omega
      have HE : Hid (∀ w1, Below w.heap.size w w1 → Calls Try.prog 34 #[.slice A t.length c, .slice B ls.length c'] w1 (EndQ (alo t ls (t.length - 1)) w1)) := Lib.hid (fun w1 hb => atEnd_any A B c c' t ls w1 (Kd.C_below hA hb) (Kd.C_below hB hb) (playsOk_len hp) h0 hn)
      have HF : Hid (∀ w1, Below w.heap.size w w1 → Calls Try.prog 34 #[.slice A t.length c, .slice D hs.length d] w1 (EndQ (alo t hs (t.length - 1)) w1)) := Lib.hid (fun w1 hb => atEnd_any A D c d t hs w1 (Kd.C_below hA hb) (Kd.C_below hD hb) (playsOk_len hp2) h0 hn)
      have HB := Lib.hid hB
      have HD := Lib.hid hD
      clear e1 ht hp hp2 hpp bad hA hB hD h0
      go_enter Try.func17, Try.ntmps17
      go_wp2_with (go_at_call 33; refine (HC.out).mono ?_; rintro e w0 ⟨rfl, hb0⟩)
      clear HC
      go_loopw [22] (fun i wr => ∃ k : Nat, k ≤ ls.length ∧ i = .int .i64 k ∧ Hid (lhK ls hs k = true) ∧ Below w.heap.size w wr) (fun i _ => ls.length - (intOf i).toNat)
      case atStart => exact ⟨0, Nat.zero_le _, rfl, Lib.hid (by simp [lhK]), hb0⟩
      case round =>
        obtain ⟨k, hk, rfl, HK, hb⟩ := hrel
        by_cases hlt : k < ls.length
        · have hlt2 : k < hs.length := by have := HLL.out; have := HLH.out; omega
          have hlti : (k : Int) < (ls.length : Int) := by omega
          have hlti2 : (k : Int) < (hs.length : Int) := by omega
          obtain ⟨b1, o1, r1, rfl, hbl1, e1, hr1⟩ := at_kf HB.out k hlt
          obtain ⟨b2, o2, r2, rfl, hbl2, e2, hr2⟩ := at_kf HD.out k hlt2
          have f1 := (bc hb b1 (o1 + k) hbl1).trans e1
          have f2 := (bc hb b2 (o2 + k) hbl2).trans e2
          have l1 : b1 < wr.heap.size := Nat.lt_of_lt_of_le hbl1 hb.size
          have l2 : b2 < wr.heap.size := Nat.lt_of_lt_of_le hbl2 hb.size
          have HW := Lib.hid (flt_FV hr2 hr1)
          clear e1 e2 hr1 hr2
          cases hq : flt r2 r1
          · have HN := Lib.hid (HW.out.symm.trans hq)
            go_wp2
            go_roundw
            case rel => exact ⟨k + 1, by omega, by go_num, Lib.hid (lhK_succ HK.out HN.out), hb⟩
            case measure => simp [intOf]; omega
          · have HN := Lib.hid (HW.out.symm.trans hq)
            go_wp2
            go_ret3
            rw [show outLH t ls hs = (0, 0, 4) from by unfold outLH; rw [lhK_false hlt HN.out]; rfl]
            exact ⟨0, 0, rfl, FV_zero, FV_zero, hb⟩
        · have hkl : k = ls.length := by omega
          have HEQ : Hid (outLH t ls hs = (alo t ls (t.length - 1), alo t hs (t.length - 1), 0)) := Lib.hid (by unfold outLH; rw [← hkl, HK.out]; rfl)
          go_wp2_with fail
          go_at_call 34
          refine (HE.out _ hb).mono ?_
          rintro e w1 ⟨r, rfl, hr, hb1⟩
          have hb2 := bstep hb hb1
          go_wp2_with fail
          go_at_call 34
          refine (HF.out _ hb2).mono ?_
          rintro e w2 ⟨s, rfl, hsv, hb3⟩
          go_wp2
          go_ret3
          rw [HEQ.out]
          exact ⟨r, s, rfl, hr, hsv, bstep hb2 hb3⟩
end Go.Proofs.Ytpkmmelinfcdaaa
