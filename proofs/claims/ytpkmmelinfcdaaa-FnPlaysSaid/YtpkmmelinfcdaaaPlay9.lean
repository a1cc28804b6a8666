/- The pair without whose play there is least: both sides. -/
import Derived.Test.YtpkmmelinfcdaaaPlay7
import Derived.Lib.SliceRun
namespace Go.Proofs.Ytpkmmelinfcdaaa
open Go.RowKit Ieee
open Go.Proofs.YtpkmmelinfcdaaaW.PrintWords
set_option maxRecDepth 100000
attribute [local irreducible] wpRel

section
variable {ops : Array Oper} {rest : List Oper} {o : Oper} {a : Act} {Q : Exit → Act → World → Prop}
/-- append(v, ys...) of floats. -/
theorem catF {w0 W : World} (hgd : o.guard = none) (s x : Operand) (ho : o.op = .call { callee := .builtin .append, args := #[s, x], argTypes := #[23, 23] })
    (v : Value) (xs ys : List Nat) (A : Option Addr) (m c : Nat) (hs : a.eval s = v) (hx : a.eval x = .slice A m c)
    (HO : FR W w0.heap.size v xs) (HR : Kd.C kf W A m ys) (HB : Below w0.heap.size w0 W) (hl : xs.length + m ≤ 2097152)
    (h : ∀ v1 w1, FR w1 w0.heap.size v1 (xs ++ ys) → Below w0.heap.size w0 w1 → wpList Try.prog ops Q rest (a.put o.dst v1) w1) :
    wpList Try.prog ops Q (o :: rest) a W :=
  Kd.R_append_rows kf (Rr := kf.K W) (w0 := w0) w0.heap.size hgd s x 23 25 (.float .f32 0) 4 ho Try.underlying23 info_f32 rfl (by decide) (by decide) v xs ys A m c (fun _ => True) (fun _ => False) hs hx HO HR (fun _ _ h => h) (fun _ h => h.elim) (fun _ _ => trivial) HB HB.size (by omega) fun v1 w1 h1 hb _ _ => h v1 w1 h1 hb
end
/-- Element k of an own row set to nought. -/
theorem zeroAt {W : World} {base : Nat} {v : Value} {ps : List Nat} (h : FR W base v ps) (k : Nat) (hk : k < ps.length) :
    ∃ g cap r2, v = .slice (some ⟨g, 0, none⟩) ps.length cap ∧ base ≤ g ∧ g < W.heap.size ∧ W.cell? ⟨g, k, none⟩ = some (.float .f32 r2) ∧ W.frozen? ⟨g, k, none⟩ = false ∧ Kd.C kf (W.setCell ⟨g, k, none⟩ (.float .f32 0)) (some ⟨g, 0, none⟩) ps.length (ps.set k 0) := by
  obtain ⟨g, cap, rfl, hge, hglt, _⟩ := Kd.R_form h.out (by omega)
  obtain ⟨ce, hcl, hM, hcc, hfr⟩ := Kd.R_elem h.out 0 (k : Int) (by omega) (by omega)
  obtain ⟨r2, rfl, _⟩ := kf_openM hM
  have x0 : W.cell? ⟨g, k, none⟩ = some (.float .f32 r2) := by have := hcc 0 _ rfl; rwa [show (k : Int).toNat * kf.sz + 0 = k from by show k * 1 + 0 = k; omega] at this
  have f0 : W.frozen? ⟨g, k, none⟩ = false := by have := hfr 0; rwa [show (k : Int).toNat * kf.sz + 0 = k from by show k * 1 + 0 = k; omega] at this
  have HS0 := (Kd.R_seg h.out (k : Int) (by omega) (by omega) (seg := [.float .f32 0]) (j := 0) hcl hcc (show 1 ≤ 1 from Nat.le_refl 1) (x' := 0) (kf_mkM W _ (fun q => True ∧ q ≠ g) FV_zero) (fun _ h => h)).1
  have e1 : W.setCells g ((k : Int).toNat * kf.sz + 0) [.float .f32 0] = W.setCell ⟨g, k, none⟩ (.float .f32 0) := by show W.setCell ⟨g, k * 1 + 0, none⟩ _ = _; rw [show k * 1 + 0 = k from by omega]
  rw [e1] at HS0
  refine ⟨g, cap, r2, rfl, hge, hglt, x0, f0, ?_⟩
  obtain ⟨A, c, hv, _, hC⟩ := Kd.R_reads HS0
  injection hv with hA hn _
  subst hA
  have := hC
  rw [← hn] at this
  exact this
/-- A slice that is not nil, compared with nil. -/
@[go_sem high] theorem run_sliceNil (ad : Addr) (n c : Nat) (w : World) : Sem.run Try.prog (binOp .eql 23 (.slice (some ad) n c) (.slice none 0 0)) w = .ok (.bool false) w :=
  Lib.run_eql_slice_nil w 23 25 (some ad) n c 0 0 Try.underlying23
/-- slices.Clone of a row that is not nil. -/
theorem clone_any (b off c : Nat) (ps : List Nat) (w : World) (hB : Kd.C kf w (some ⟨b, off, none⟩) ps.length ps) (hm : ps.length ≤ 1048576) :
    Calls Try.prog 39 #[.slice (some ⟨b, off, none⟩) ps.length c] w fun e w' => ∃ v, e = .returned v ∧ FR w' w.heap.size v ps ∧ Below w.heap.size w w' := by
  have HB := Lib.hid hB
  have HE := Lib.hid (FR.empty (w := w.alloc (.cells #[] 25)) w.heap.size w.heap.size (heap_alloc_new w _) (Nat.le_refl _))
  have b0 : Below w.heap.size w (w.alloc (.cells #[] 25)) := balloc (Below.refl _ _) _
  clear hB
  go_enter Try.func39, Try.ntmps39
  go_wp2_with (at_builtin; go_must (refine catF (w0 := w) (o := ⟨some 7, _, _, _, _, _⟩) rfl (.tmp 5) (.tmp 6) rfl (.slice (some ⟨w.heap.size, 0, none⟩) 0 0) [] ps (some ⟨b, off, none⟩) ps.length c ?cy7 ?cx7 HE.out (Kd.C_below HB.out b0) b0 (by simp; omega) ?_; (case cy7 => rfl); (case cx7 => rfl); intro v1 w1 h1 hb1; have H1 := Lib.hid h1; clear h1))
  go_ret
  exact ⟨_, rfl, H1.out, hb1⟩

/-- The pair without whose play there is least, from i on (d rounds). -/
def wid (f : Nat → Nat) : Nat → Nat → Int → Nat → Int × Nat
  | 0, _, b, l => (b, l)
  | d + 1, i, b, l => if i = 0 ∨ flt (f i) l = true then wid f d (i + 1) i (f i) else wid f d (i + 1) b l
theorem wid_take {f : Nat → Nat} {n i : Nat} {b : Int} {l : Nat} (hi : i < n) (h : i = 0 ∨ flt (f i) l = true) : wid f (n - i) i b l = wid f (n - (i + 1)) (i + 1) i (f i) := by
  obtain ⟨d, hd⟩ : ∃ d, n - i = d + 1 := ⟨n - i - 1, by omega⟩
  rw [hd, wid, if_pos h, show n - (i + 1) = d by omega]
theorem wid_leave {f : Nat → Nat} {n i : Nat} {b : Int} {l : Nat} (hi : i < n) (h0 : i ≠ 0) (h : flt (f i) l = false) : wid f (n - i) i b l = wid f (n - (i + 1)) (i + 1) b l := by
  obtain ⟨d, hd⟩ : ∃ d, n - i = d + 1 := ⟨n - i - 1, by omega⟩
  rw [hd, wid, if_neg (by rintro (h1 | h1); exact h0 h1; rw [h] at h1; cases h1), show n - (i + 1) = d by omega]
def lessV (t : List (Int × Int × Nat)) (ps : List Nat) (i : Nat) : Nat := alo t (ps.set i 0) (t.length - 1)
def outWP (t : List (Int × Int × Nat)) (ps : List Nat) : Int × Nat × Int :=
  if trainOk t = true then (if playsOk t.length ps = true then ((wid (lessV t ps) ps.length 0 0 0).1, (wid (lessV t ps) ps.length 0 0 0).2, 0) else (0, 0, 2)) else (0, 0, 1)
def WPQ (a : Int × Nat × Int) (w : World) (e : Ending) (w' : World) : Prop := ∃ r, e = .returned (.tuple #[.int .i64 a.1, .float .f32 r, .int .i64 a.2.2]) ∧ FV r a.2.1 ∧ Below w.heap.size w w'

set_option maxHeartbeats 8000000 in
theorem widest_spec (A B : Option Addr) (c c' : Nat) (t : List (Int × Int × Nat)) (ps : List Nat) (w : World) (hA : Kd.C kP w A t.length t) (hn : t.length ≤ 1048576) (hB : Kd.C kf w B ps.length ps) (hm : ps.length ≤ 1048576) :
    Calls Try.prog 23 #[.slice A t.length c, .slice B ps.length c'] w (WPQ (outWP t ps) w) := by
  have bad : ∀ k : Int, (k = 1 ∨ k = 2) → codeP (trainOk t) (playsOk t.length ps) = k → outWP t ps = (0, 0, k) → Calls Try.prog 23 #[.slice A t.length c, .slice B ps.length c'] w (WPQ (outWP t ps) w) := by
    intro k hk hcd ho
    rw [ho]
    have HC := Lib.hid (l06Asked_any A B c c' t ps k hcd w hA hn hB hm)
    clear ho hcd hA hB
    rcases hk with rfl | rfl
    all_goals
      go_enter Try.func23, Try.ntmps23
      go_wp2_with (go_at_call 30; refine (HC.out).mono ?_; rintro e w' ⟨rfl, rfl⟩)
      go_ret3
      exact ⟨0, rfl, FV_zero, Below.refl _ _⟩
  cases ht : trainOk t
  · exact bad 1 (.inl rfl) (by simp [codeP, ht]) (by simp [outWP, ht])
  · cases hp : playsOk t.length ps
    · exact bad 2 (.inr rfl) (by simp [codeP, ht, hp]) (by simp [outWP, ht, hp])
    · obtain ⟨ab, hab⟩ : ∃ ab, ab = wid (lessV t ps) ps.length 0 0 0 := ⟨_, rfl⟩
      have e1 : outWP t ps = (ab.1, ab.2, 0) := by rw [hab]; simp [outWP, ht, hp]
      have HC := Lib.hid (l06Asked_any A B c c' t ps 0 (by simp [codeP, ht, hp]) w hA hn hB hm)
      have HL := Lib.hid (playsOk_len hp)
      have h0 : 0 < t.length := by have := trainOk_len ht; omega
      have HE : Hid (∀ w1 B' c'' qs, Below w.heap.size w w1 → qs.length = ps.length → Kd.C kf w1 B' ps.length qs → Calls Try.prog 31 #[.slice A t.length c, .slice B' ps.length c''] w1 (EndQ (alo t qs (t.length - 1)) w1)) := Lib.hid (fun w1 B' c'' qs hb hq hC => by
        have := l06Last_any A B' c c'' t qs w1 (Kd.C_below hA hb) (by rw [hq]; exact hC) (by rw [hq]; exact playsOk_len hp) h0 hn
        rwa [hq] at this)
      have HB := Lib.hid hB
      have HW0 := Lib.hid (show wid (lessV t ps) (ps.length - 0) 0 0 0 = ab from hab.symm)
      rw [e1]
      clear e1 ht hp bad hA hB h0 hab
      go_enter Try.func23, Try.ntmps23
      go_wp2_with (go_at_call 30; refine (HC.out).mono ?_; rintro e w' ⟨rfl, rfl⟩)
      clear HC
      go_loopw [8, 9, 10] (fun bv lv iv wr => ∃ k : Nat, ∃ b : Int, ∃ x r : Nat, k ≤ ps.length ∧ iv = .int .i64 k ∧ bv = .int .i64 b ∧ lv = .float .f32 r ∧ Hid (FV r x) ∧ Hid (wid (lessV t ps) (ps.length - k) k b x = ab) ∧ Below w.heap.size w wr) (fun _ _ i _ => ps.length - (intOf i).toNat)
      case atStart => exact ⟨0, 0, 0, 0, Nat.zero_le _, rfl, rfl, rfl, Lib.hid FV_zero, HW0, Below.refl _ _⟩
      case round =>
        obtain ⟨k, bb, x, r, hk, rfl, rfl, rfl, HF, HW, hb⟩ := hrel
        clear HW0
        by_cases hlt : k < ps.length
        · obtain ⟨b, off, r0, hB0, hbl, _, _⟩ := at_kf HB.out k hlt
          subst hB0
          have hlti : (k : Int) < (ps.length : Int) := by omega
          have HB2 := Lib.hid (Kd.C_below HB.out hb)
          have HEM := Lib.hid (FR.empty (w := wr.alloc (.cells #[] 25)) w.heap.size wr.heap.size (heap_alloc_new wr _) hb.size)
          have b0 : Below w.heap.size w (wr.alloc (.cells #[] 25)) := balloc hb _
          have HB3 := Lib.hid (Kd.C_below HB2.out (balloc (Below.refl wr.heap.size wr) (.cells #[] 25)))
          go_wp2_with (at_builtin; refine catF (w0 := w) (o := ⟨some 27, _, _, _, _, _⟩) rfl (.tmp 25) (.tmp 26) rfl (.slice (some ⟨wr.heap.size, 0, none⟩) 0 0) [] ps (some ⟨b, off, none⟩) ps.length c' ?cy7 ?cx7 HEM.out HB3.out b0 (by simp; omega) ?_; (case cy7 => rfl); (case cx7 => rfl); intro v1 w1 h1 hb1; obtain ⟨g, cap, r2, rfl, hge, hgl, x0, f0, hC⟩ := zeroAt (show FR w1 w.heap.size v1 ps from h1) k hlt; have HZ := Lib.hid hC; clear h1 hC)
          have hb2 : Below w.heap.size w (w1.setCell ⟨g, k, none⟩ (.float .f32 0)) := bset hb1 hge _
          go_at_call 31
          refine (HE.out _ _ _ _ hb2 (by simp) HZ.out).mono ?_
          rintro e w3 ⟨r3, rfl, hr3, hb3⟩
          have hb4 := bstep hb2 hb3
          have HR3 := Lib.hid hr3
          have HN := Lib.hid (show flt r3 r = flt (lessV t ps k) x from flt_FV hr3 HF.out)
          clear hr3 x0 f0
          cases k with
          | zero =>
            have HW2 := Lib.hid ((wid_take hlt (.inl rfl)).symm.trans HW.out)
            go_wp2
            go_roundw
            case rel => exact ⟨1, 0, _, r3, hlt, by go_num, rfl, rfl, HR3, HW2, hb4⟩
            case measure => simp [intOf]; omega
          | succ j =>
            have hj0 : ¬ ((j : Int) + 1 = 0) := by omega
            cases hq : flt r3 r
            · have HW2 := Lib.hid ((wid_leave hlt (by omega) (HN.out.symm.trans hq)).symm.trans HW.out)
              go_wp2
              go_roundw
              case rel => exact ⟨j + 1 + 1, bb, x, r, hlt, by go_num, rfl, rfl, HF, HW2, hb4⟩
              case measure => simp [intOf]; omega
            · have HW2 := Lib.hid ((wid_take hlt (.inr (HN.out.symm.trans hq))).symm.trans HW.out)
              go_wp2
              go_roundw
              case rel => exact ⟨j + 1 + 1, _, _, r3, hlt, by go_num, by go_num, rfl, HR3, HW2, hb4⟩
              case measure => simp [intOf]; omega
        · have hkl : k = ps.length := by omega
          have HQ : Hid ((bb, x) = ab) := Lib.hid (by have := HW.out; rwa [hkl, Nat.sub_self] at this)
          go_wp2
          go_ret3
          rw [← HQ.out]
          exact ⟨r, rfl, HF.out, hb⟩

set_option maxHeartbeats 8000000 in
theorem widest_impl (A B : Option Addr) (c c' : Nat) (t : List (Int × Int × Nat)) (ps : List Nat) (w : World) (hA : Kd.C kP w A t.length t) (hn : t.length ≤ 1048576) (hB : Kd.C kf w B ps.length ps) (hc : ps.length ≤ c') (hm : ps.length ≤ 1048576) :
    Calls Try.prog 24 #[.slice A t.length c, .slice B ps.length c'] w (WPQ (outWP t ps) w) := by
  have bad : ∀ k : Int, (k = 1 ∨ k = 2) → codeP (trainOk t) (playsOk t.length ps) = k → outWP t ps = (0, 0, k) → Calls Try.prog 24 #[.slice A t.length c, .slice B ps.length c'] w (WPQ (outWP t ps) w) := by
    intro k hk hcd ho
    rw [ho]
    have HC := Lib.hid (playCode1 A B c c' t ps k hcd w hA hn hB hc hm)
    clear ho hcd hA hB
    rcases hk with rfl | rfl
    all_goals
      go_enter Try.func24, Try.ntmps24
      go_wp2_with (go_at_call 33; refine (HC.out).mono ?_; rintro e w0 ⟨rfl, hb0⟩)
      go_ret3
      exact ⟨0, rfl, FV_zero, hb0⟩
  cases ht : trainOk t
  · exact bad 1 (.inl rfl) (by simp [codeP, ht]) (by simp [outWP, ht])
  · cases hp : playsOk t.length ps
    · exact bad 2 (.inr rfl) (by simp [codeP, ht, hp]) (by simp [outWP, ht, hp])
    · obtain ⟨ab, hab⟩ : ∃ ab, ab = wid (lessV t ps) ps.length 0 0 0 := ⟨_, rfl⟩
      have e1 : outWP t ps = (ab.1, ab.2, 0) := by rw [hab]; simp [outWP, ht, hp]
      have HC := Lib.hid (playCode1 A B c c' t ps 0 (by simp [codeP, ht, hp]) w hA hn hB hc hm)
      have HL := Lib.hid (playsOk_len hp)
      have h0 : 0 < t.length := by have := trainOk_len ht; omega
      have HE : Hid (∀ w1 B' c'' qs, Below w.heap.size w w1 → qs.length = ps.length → Kd.C kf w1 B' ps.length qs → Calls Try.prog 34 #[.slice A t.length c, .slice B' ps.length c''] w1 (EndQ (alo t qs (t.length - 1)) w1)) := Lib.hid (fun w1 B' c'' qs hb hq hC => by
        have := atEnd_any A B' c c'' t qs w1 (Kd.C_below hA hb) (by rw [hq]; exact hC) (by rw [hq]; exact playsOk_len hp) h0 hn
        rwa [hq] at this)
      have HB := Lib.hid hB
      have HW0 := Lib.hid (show wid (lessV t ps) (ps.length - 0) 0 0 0 = ab from hab.symm)
      rw [e1]
      clear e1 ht hp bad hA hB h0 hab
      go_enter Try.func24, Try.ntmps24
      go_wp2_with (go_at_call 33; refine (HC.out).mono ?_; rintro e w0 ⟨rfl, hb0⟩)
      clear HC
      go_loopw [8, 9, 22] (fun bv lv iv wr => ∃ k : Nat, ∃ b : Int, ∃ x r : Nat, k ≤ ps.length ∧ iv = .int .i64 k ∧ bv = .int .i64 b ∧ lv = .float .f32 r ∧ Hid (FV r x) ∧ Hid (wid (lessV t ps) (ps.length - k) k b x = ab) ∧ Below w.heap.size w wr) (fun _ _ i _ => ps.length - (intOf i).toNat)
      case atStart => exact ⟨0, 0, 0, 0, Nat.zero_le _, rfl, rfl, rfl, Lib.hid FV_zero, HW0, hb0⟩
      case round =>
        obtain ⟨k, bb, x, r, hk, rfl, rfl, rfl, HF, HW, hb⟩ := hrel
        clear HW0
        by_cases hlt : k < ps.length
        · obtain ⟨b, off, r0, hB0, hbl, _, _⟩ := at_kf HB.out k hlt
          subst hB0
          have hlti : (k : Int) < (ps.length : Int) := by omega
          have HB2 := Lib.hid (Kd.C_below HB.out hb)
          have HCl := Lib.hid (clone_any b off c' ps wr HB2.out hm)
          go_wp2_with (go_at_call 39; refine (HCl.out).mono ?_; rintro e w1 ⟨v1, rfl, h1, hbc⟩; have hb1 := bstep hb hbc; obtain ⟨g, cap, r2, rfl, hge', hgl, x0, f0, hC⟩ := zeroAt h1 k hlt; have hge := Nat.le_trans hb.size hge'; have HZ := Lib.hid hC; clear h1 hC)
          have hb2 : Below w.heap.size w (w1.setCell ⟨g, k, none⟩ (.float .f32 0)) := bset hb1 hge _
          go_at_call 34
          refine (HE.out _ _ _ _ hb2 (by simp) HZ.out).mono ?_
          rintro e w3 ⟨r3, rfl, hr3, hb3⟩
          have hb4 := bstep hb2 hb3
          have HR3 := Lib.hid hr3
          have HN := Lib.hid (show flt r3 r = flt (lessV t ps k) x from flt_FV hr3 HF.out)
          clear hr3 x0 f0
          cases k with
          | zero =>
            have HW2 := Lib.hid ((wid_take hlt (.inl rfl)).symm.trans HW.out)
            go_wp2
            go_roundw
            case rel => exact ⟨1, 0, _, r3, hlt, by go_num, rfl, rfl, HR3, HW2, hb4⟩
            case measure => simp [intOf]; omega
          | succ j =>
            have hj0 : ¬ ((j : Int) + 1 = 0) := by omega
            cases hq : flt r3 r
            · have HW2 := Lib.hid ((wid_leave hlt (by omega) (HN.out.symm.trans hq)).symm.trans HW.out)
              go_wp2
              go_roundw
              case rel => exact ⟨j + 1 + 1, bb, x, r, hlt, by go_num, rfl, rfl, HF, HW2, hb4⟩
              case measure => simp [intOf]; omega
            · have HW2 := Lib.hid ((wid_take hlt (.inr (HN.out.symm.trans hq))).symm.trans HW.out)
              go_wp2
              go_roundw
              case rel => exact ⟨j + 1 + 1, _, _, r3, hlt, by go_num, by go_num, rfl, HR3, HW2, hb4⟩
              case measure => simp [intOf]; omega
        · have hkl : k = ps.length := by omega
          have HQ : Hid ((bb, x) = ab) := Lib.hid (by have := HW.out; rwa [hkl, Nat.sub_self] at this)
          go_wp2
          go_ret3
          rw [← HQ.out]
          exact ⟨r, rfl, HF.out, hb⟩
end Go.Proofs.Ytpkmmelinfcdaaa
