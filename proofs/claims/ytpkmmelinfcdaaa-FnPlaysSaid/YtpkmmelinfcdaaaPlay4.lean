/- The play at the end, with its code: both sides, and the law's walk. -/
import Derived.Test.YtpkmmelinfcdaaaPlay3
namespace Go.Proofs.Ytpkmmelinfcdaaa
open Go.RowKit Ieee
open Go.Proofs.YtpkmmelinfcdaaaW.PrintWords
set_option maxRecDepth 100000

theorem trainOk_len {t : List (Int × Int × Nat)} (h : trainOk t = true) : 1 ≤ t.length ∧ t.length ≤ 8 := by
  unfold trainOk iin at h
  simp at h
  omega
theorem playsOk_len {n : Nat} {ps : List Nat} (h : playsOk n ps = true) : ps.length = n := by
  unfold playsOk at h
  simp at h
  exact h.1
def outPA (t : List (Int × Int × Nat)) (ps : List Nat) : Nat × Int :=
  if trainOk t = true then (if playsOk t.length ps = true then (alo t ps (t.length - 1), 0) else (0, 2)) else (0, 1)
def PAQ (a : Nat × Int) (w : World) (e : Ending) (w' : World) : Prop := ∃ r, e = .returned (.tuple #[.float .f32 r, .int .i64 a.2]) ∧ FV r a.1 ∧ Below w.heap.size w w'
set_option maxHeartbeats 2000000 in
theorem playAt_spec (A B : Option Addr) (c c' : Nat) (t : List (Int × Int × Nat)) (ps : List Nat) (w : World) (hA : Kd.C kP w A t.length t) (hn : t.length ≤ 1048576) (hB : Kd.C kf w B ps.length ps) (hm : ps.length ≤ 1048576) :
    Calls Try.prog 9 #[.slice A t.length c, .slice B ps.length c'] w (PAQ (outPA t ps) w) := by
  have bad : ∀ k : Int, (k = 1 ∨ k = 2) → codeP (trainOk t) (playsOk t.length ps) = k → outPA t ps = (0, k) → Calls Try.prog 9 #[.slice A t.length c, .slice B ps.length c'] w (PAQ (outPA t ps) w) := by
    intro k hk hc ho
    rw [ho]
    have HC := Lib.hid (l06Asked_any A B c c' t ps k hc w hA hn hB hm)
    clear ho hc hA hB
    rcases hk with rfl | rfl
    all_goals
      go_enter Try.func9, Try.ntmps9
      go_wp2_with (go_at_call 30; refine (HC.out).mono ?_; rintro e w' ⟨rfl, rfl⟩)
      go_ret2
      exact ⟨0, rfl, FV_zero, Below.refl _ _⟩
  cases ht : trainOk t
  · exact bad 1 (.inl rfl) (by simp [codeP, ht]) (by simp [outPA, ht])
  · cases hp : playsOk t.length ps
    · exact bad 2 (.inr rfl) (by simp [codeP, ht, hp]) (by simp [outPA, ht, hp])
    · have e1 : outPA t ps = (alo t ps (t.length - 1), 0) := by simp [outPA, ht, hp]
      have HC := Lib.hid (l06Asked_any A B c c' t ps 0 (by simp [codeP, ht, hp]) w hA hn hB hm)
      have HE := Lib.hid (l06Last_any A B c c' t ps w hA hB (playsOk_len hp) (by have := trainOk_len ht; omega) hn)
      rw [e1]
      clear e1 ht hp bad hA hB
      go_enter Try.func9, Try.ntmps9
      go_wp2_with (first | (go_at_call 30; refine (HC.out).mono ?_; rintro e w' ⟨rfl, rfl⟩) | (go_at_call 31; refine (HE.out).mono ?_; rintro e w1 ⟨r, rfl, hr, hb1⟩; have HR := Lib.hid hr; clear hr))
      go_ret2
      exact ⟨r, rfl, HR.out, hb1⟩
/-- The code of a train and one list of plays, as the program asks it. -/
theorem playCode1 (A B : Option Addr) (c c' : Nat) (t : List (Int × Int × Nat)) (ps : List Nat) (k : Int) (hk : codeP (trainOk t) (playsOk t.length ps) = k) (w : World)
    (hA : Kd.C kP w A t.length t) (hn : t.length ≤ 1048576) (hB : Kd.C kf w B ps.length ps) (hc : ps.length ≤ c') (hm : ps.length ≤ 1048576) :
    Calls Try.prog 33 #[.slice A t.length c, .slice (some ⟨w.heap.size, 0, none⟩) 1 1] (w.alloc (.cells #[.slice B ps.length c'] 23)) fun e w' => e = .returned (.int .i64 k) ∧ Below w.heap.size w w' := by
  have hb : Below w.heap.size w (w.alloc (.cells #[.slice B ps.length c'] 23)) := balloc (Below.refl _ _) _
  have := playCode_any A c t (some ⟨w.heap.size, 0, none⟩) 1 [ps] k (by rw [← hk]; simp) (w.alloc (.cells #[.slice B ps.length c'] 23)) (Kd.C_below hA hb) hn (C_one (by go_simp) hc (Kd.C_below hB hb)) (by simp) (fun i hi => by
    have hi0 : i = 0 := by simpa using hi
    subst hi0
    exact hm)
  exact this.mono fun e w' h => ⟨h.1, bstep hb h.2⟩
set_option maxHeartbeats 2000000 in
theorem playAt_impl (A B : Option Addr) (c c' : Nat) (t : List (Int × Int × Nat)) (ps : List Nat) (w : World) (hA : Kd.C kP w A t.length t) (hn : t.length ≤ 1048576) (hB : Kd.C kf w B ps.length ps) (hc : ps.length ≤ c') (hm : ps.length ≤ 1048576) :
    Calls Try.prog 12 #[.slice A t.length c, .slice B ps.length c'] w (PAQ (outPA t ps) w) := by
  have bad : ∀ k : Int, (k = 1 ∨ k = 2) → codeP (trainOk t) (playsOk t.length ps) = k → outPA t ps = (0, k) → Calls Try.prog 12 #[.slice A t.length c, .slice B ps.length c'] w (PAQ (outPA t ps) w) := by
    intro k hk hcd ho
    rw [ho]
    have HC := Lib.hid (playCode1 A B c c' t ps k hcd w hA hn hB hc hm)
    clear ho hcd hA hB
    rcases hk with rfl | rfl
    all_goals
      go_enter Try.func12, Try.ntmps12
      go_wp2_with (go_at_call 33; refine (HC.out).mono ?_; rintro e w1 ⟨rfl, hb1⟩)
      go_ret2
      exact ⟨0, rfl, FV_zero, hb1⟩
  cases ht : trainOk t
  · exact bad 1 (.inl rfl) (by simp [codeP, ht]) (by simp [outPA, ht])
  · cases hp : playsOk t.length ps
    · exact bad 2 (.inr rfl) (by simp [codeP, ht, hp]) (by simp [outPA, ht, hp])
    · have e1 : outPA t ps = (alo t ps (t.length - 1), 0) := by simp [outPA, ht, hp]
      have HC := Lib.hid (playCode1 A B c c' t ps 0 (by simp [codeP, ht, hp]) w hA hn hB hc hm)
      have HE : Hid (∀ w1, Below w.heap.size w w1 → Calls Try.prog 34 #[.slice A t.length c, .slice B ps.length c'] w1 (EndQ (alo t ps (t.length - 1)) w1)) := Lib.hid (fun w1 hb => atEnd_any A B c c' t ps w1 (Kd.C_below hA hb) (Kd.C_below hB hb) (playsOk_len hp) (by have := trainOk_len ht; omega) hn)
      rw [e1]
      clear e1 ht hp bad hA hB
      go_enter Try.func12, Try.ntmps12
      go_wp2_with (first | (go_at_call 33; refine (HC.out).mono ?_; rintro e w1 ⟨rfl, hb1⟩) | (go_at_call 34; refine (HE.out _ hb1).mono ?_; rintro e w2 ⟨r, rfl, hr, hb2⟩; have HR := Lib.hid hr; clear hr))
      go_ret2
      exact ⟨r, rfl, HR.out, bstep hb1 hb2⟩

set_option maxHeartbeats 8000000 in
theorem law_playAt (A : Option Addr) (c : Nat) (t : List (Int × Int × Nat)) (lc : t.length ≤ c) (lm : c ≤ maxLen) (_ : A = none → t.length = 0 ∧ c = 0) (B : Option Addr) (c' : Nat) (ps : List Nat) (lc' : ps.length ≤ c') (lm' : c' ≤ maxLen) (_ : B = none → ps.length = 0 ∧ c' = 0) (w : World) (hA : Kd.C kP w A t.length t) (hB : Kd.C kf w B ps.length ps) :
    Calls Try.prog 3 #[.slice A t.length c, .slice B ps.length c'] w fun e w' => e = .returned (.bool true) ∧ Below w.heap.size w w' := by
  have HA : Hid (Kd.C kP w A t.length t) := Lib.hid hA
  have HB : Hid (Kd.C kf w B ps.length ps) := Lib.hid hB
  clear hA hB
  unfold maxLen at lm lm'
  by_cases hm : ps.length ≤ 1048576
  · by_cases hn : t.length ≤ 1048576
    · have hspec := fun A B c c' w h1 h2 => playAt_spec A B c c' t ps w h1 hn h2 hm
      have himpl := fun A B c c' w h1 h2 h3 => playAt_impl A B c c' t ps w h1 hn h2 h3 hm
      generalize outPA t ps = o at hspec himpl
      obtain ⟨x, cd⟩ := o
      have HSp := Lib.hid hspec
      have HIm := Lib.hid himpl
      clear hspec himpl
      go_enter Try.func3, Try.ntmps3
      go_wp2_with (go_at_call 8; refine (szTrain_le _ _ _ _ (by omega) (by decide) _).mono ?_; rintro e w' ⟨rfl, rfl⟩)
      go_at_call 10
      refine (toTrain_any A c t _ HA.out lc hn).mono ?_
      rintro e w1 ⟨v1, rfl, hR1, hb1⟩
      obtain ⟨A1, c1, rfl, hc1, hC1⟩ := Kd.R_reads hR1
      have H1 := Lib.hid hC1
      clear hR1 hC1
      go_wp2_with fail
      go_at_call 11
      refine (toF_any B c' ps _ (Kd.C_below HB.out hb1) hm).mono ?_
      rintro e w2 ⟨v2, rfl, hR2, hb2⟩
      obtain ⟨B2, c2, rfl, hc2, hC2⟩ := hR2.reads
      have H2 := Lib.hid hC2
      have k2 := bstep hb1 hb2
      clear hR2 hC2
      go_wp2_with fail
      go_at_call 9
      refine (HSp.out A1 B2 c1 c2 _ (Kd.C_below H1.out hb2) H2.out).mono ?_
      rintro e w3 ⟨r, rfl, hr, hb3⟩
      have HR := Lib.hid hr
      have k3 := bstep k2 hb3
      clear hr
      go_wp2_with fail
      go_at_call 10
      refine (toTrain_any A c t _ (Kd.C_below HA.out k3) lc hn).mono ?_
      rintro e w4 ⟨v4, rfl, hR4, hb4⟩
      obtain ⟨A4, c4, rfl, hc4, hC4⟩ := Kd.R_reads hR4
      have H4 := Lib.hid hC4
      have k4 := bstep k3 hb4
      clear hR4 hC4
      go_wp2_with fail
      go_at_call 11
      refine (toF_any B c' ps _ (Kd.C_below HB.out k4) hm).mono ?_
      rintro e w5 ⟨v5, rfl, hR5, hb5⟩
      obtain ⟨B5, c5, rfl, hc5, hC5⟩ := hR5.reads
      have H5 := Lib.hid hC5
      have k5 := bstep k4 hb5
      clear hR5 hC5
      go_wp2_with fail
      go_at_call 12
      refine (HIm.out A4 B5 c4 c5 _ (Kd.C_below H4.out hb5) H5.out hc5).mono ?_
      rintro e w6 ⟨s, rfl, hs, hb6⟩
      have HS := Lib.hid hs
      have k6 := bstep k5 hb6
      clear hs
      go_wp2_with (first | (refine wpList_conv64 (o := ⟨some 39, _, _, _, _, _⟩) rfl rfl (by kernel_rfl) Try.underlying33 rfl ?_; intro r39 n39 h39) | (refine wpList_conv64 (o := ⟨some 41, _, _, _, _, _⟩) rfl rfl (by kernel_rfl) Try.underlying33 rfl ?_; intro r41 n41 h41) | (go_at_call 13; refine (sameFloat_any _ _ h39.2 (wide_same' (HS.out.1.trans HR.out.1.symm) h39 h41) _).mono ?_; rintro e w' ⟨rfl, rfl⟩))
      go_at_call 10
      refine (toTrain_any A c t _ (Kd.C_below HA.out (bdrewN k6 _)) lc hn).mono ?_
      rintro e w7 ⟨v7, rfl, hR7, hb7⟩
      obtain ⟨A7, c7, rfl, hc7, hC7⟩ := Kd.R_reads hR7
      have H7 := Lib.hid hC7
      have k7 := bstep (bdrewN k6 _) hb7
      have b47 := bstep (bdrewN (bstep hb5 hb6) _) hb7
      have b57 := bstep (bdrewN hb6 _) hb7
      clear hR7 hC7
      go_wp2_with fail
      go_at_call 14
      refine (eqTrain_any A4 A7 c4 c7 t _ (Kd.C_below H4.out b47) H7.out hn).mono ?_
      rintro e w8 ⟨rfl, hb8⟩
      have k8 := bstep k7 hb8
      go_wp2_with fail
      go_at_call 11
      refine (toF_any B c' ps _ (Kd.C_below HB.out k8) hm).mono ?_
      rintro e w9 ⟨v9, rfl, hR9, hb9⟩
      obtain ⟨B9, c9, rfl, hc9, hC9⟩ := hR9.reads
      have H9 := Lib.hid hC9
      clear hR9 hC9
      go_wp2_with fail
      go_at_call 15
      refine (eqF_any B5 B9 c5 c9 ps _ (Kd.C_below H5.out (bstep (bstep b57 hb8) hb9)) H9.out hm).mono ?_
      rintro e w10 ⟨rfl, hb10⟩
      go_wp2
      go_ret
      exact ⟨by simp, bstep (bstep k8 hb9) hb10⟩
    · go_enter Try.func3, Try.ntmps3
      go_wp2_with (go_at_call 8; refine (szTrain_gt _ _ _ _ (by omega) (by decide) (by decide) (by omega) _).mono ?_; rintro e w' ⟨rfl, rfl⟩)
      go_ret
      exact ⟨rfl, Below.refl _ _⟩
  · have hm' : (1048576 : Int) < ps.length := by omega
    go_enter Try.func3, Try.ntmps3
    go_wp2
    go_ret
    exact ⟨rfl, Below.refl _ _⟩
end Go.Proofs.Ytpkmmelinfcdaaa
