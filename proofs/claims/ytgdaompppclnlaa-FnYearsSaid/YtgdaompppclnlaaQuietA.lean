/- For how many weeks there is no change: both sides. For how many weeks there is no change: the program's side, and the law. -/
import Derived.Test.YtgdaompppclnlaaWeek
import Derived.Test.YtgdaompppclnlaaTeeth3
import Derived.Test.YtgdaompppclnlaaPlain
import Derived.Lib.SliceRun
namespace Go.Proofs.Ytgdaompppclnlaa
open Go.RowKit Ieee
open Go.Proofs.YtgdaompppclnlaaW.PrintWords
set_option maxRecDepth 100000
attribute [local irreducible] wpRel

section
variable {ops : Array Oper} {rest : List Oper} {o : Oper} {a : Act} {Q : Exit → Act → World → Prop}
/-- append(v, ys...) of teeth. -/
theorem catT {w0 W : World} (hgd : o.guard = none) (s x : Operand) (ho : o.op = .call { callee := .builtin .append, args := #[s, x], argTypes := #[27, 27] })
    (v : Value) (xs ys : List Tth) (A : Option Addr) (m c : Nat) (hs : a.eval s = v) (hx : a.eval x = .slice A m c)
    (HO : RW kT 44 W w0.heap.size v xs) (HR : Kd.C kT W A m ys) (HB : Below w0.heap.size w0 W) (hl : xs.length + m ≤ 2097152)
    (h : ∀ v1 w1, RW kT 44 w1 w0.heap.size v1 (xs ++ ys) → Below w0.heap.size w0 w1 → wpList Try.prog ops Q rest (a.put o.dst v1) w1) :
    wpList Try.prog ops Q (o :: rest) a W :=
  Kd.R_append_rows kT (Rr := kT.K W) (w0 := w0) w0.heap.size hgd s x 27 44 (.agg #[.float .f32 0, .float .f32 0, .float .f32 0, .int .i8 0]) 16 ho Try.underlying27 info_tooth rfl (by decide) (by decide) v xs ys A m c (fun _ => True) (fun _ => False) hs hx HO HR (fun x cs h => by
    obtain ⟨r, p, q, rfl, h1, h2, h3, h4⟩ := kT_open h
    exact kT_mkM _ _ _ h1 h2 h3 h4) (fun _ h => h.elim) (fun _ _ => trivial) HB HB.size (by omega) fun v1 w1 h1 hb _ _ => h v1 w1 h1 hb
end
@[go_sem high] theorem run_sliceNilT (ad : Addr) (n c : Nat) (w : World) : Sem.run Try.prog (binOp .eql 27 (.slice (some ad) n c) (.slice none 0 0)) w = .ok (.bool false) w :=
  Lib.run_eql_slice_nil w 27 44 (some ad) n c 0 0 Try.underlying27
/-- slices.Clone of a row of teeth that is not nil. -/
theorem cloneT_any (b off c : Nat) (ps : List Tth) (w : World) (hB : Kd.C kT w (some ⟨b, off, none⟩) ps.length ps) (hm : ps.length ≤ 1048576) :
    Calls Try.prog 30 #[.slice (some ⟨b, off, none⟩) ps.length c] w fun e w' => ∃ v, e = .returned v ∧ RW kT 44 w' w.heap.size v ps ∧ Below w.heap.size w w' := by
  have HB := Lib.hid hB
  have HE := Lib.hid (RW.empty kT 44 (w := w.alloc (.cells #[] 44)) w.heap.size w.heap.size (heap_alloc_new w _) (Nat.le_refl _))
  have b0 : Below w.heap.size w (w.alloc (.cells #[] 44)) := balloc (Below.refl _ _) _
  clear hB
  go_enter Try.func30, Try.ntmps30
  go_wp2_with (at_builtin; go_must (refine catT (w0 := w) (o := ⟨some 7, _, _, _, _, _⟩) rfl (.tmp 5) (.tmp 6) rfl (.slice (some ⟨w.heap.size, 0, none⟩) 0 0) [] ps (some ⟨b, off, none⟩) ps.length c ?cy7 ?cx7 HE.out (Kd.C_below HB.out b0) b0 (by simp; omega) ?_; (case cy7 => rfl); (case cx7 => rfl); intro v1 w1 h1 hb1; have H1 := Lib.hid h1; clear h1))
  go_ret
  exact ⟨_, rfl, H1.out, hb1⟩
theorem sides_week {t : List (Int × Int × Nat)} {l : List Tth} {x lim : Nat} (h : sidesT l) : sidesT (weekL t l x lim l.length) := by
  intro i hi
  rw [weekL_length] at hi
  have : (weekL t l x lim l.length).getD i zT = wkT t l x lim i := by simp [weekL, List.getD_eq_getElem?_getD, hi]
  rw [this]
  exact wornT_side (chT_side (h i hi))
theorem sides_all {l : List Tth} (h : l.all okT = true) : sidesT l := fun i hi => okT_side (all_get (z := zT) h hi)
/-- Weeks without a change: d more at most, n so far. -/
def qwF (t : List (Int × Int × Nat)) (x lim : Nat) : Nat → Nat → List Tth → Int
  | 0, n, _ => n
  | d + 1, n, l => if (chgL 0 lim l l.length).length = 0 then qwF t x lim d (n + 1) (weekL t l x lim l.length) else n
theorem qwF_go {t : List (Int × Int × Nat)} {x lim n : Nat} {l : List Tth} (hn : n < 104) (h : (chgL 0 lim l l.length).length = 0) : qwF t x lim (104 - n) n l = qwF t x lim (104 - (n + 1)) (n + 1) (weekL t l x lim l.length) := by
  obtain ⟨d, hd⟩ : ∃ d, 104 - n = d + 1 := ⟨104 - n - 1, by omega⟩
  rw [hd, qwF, if_pos h, show 104 - (n + 1) = d by omega]
theorem qwF_stop {t : List (Int × Int × Nat)} {x lim n : Nat} {l : List Tth} (hn : n < 104) (h : (chgL 0 lim l l.length).length ≠ 0) : qwF t x lim (104 - n) n l = n := by
  obtain ⟨d, hd⟩ : ∃ d, 104 - n = d + 1 := ⟨104 - n - 1, by omega⟩
  rw [hd, qwF, if_neg h]
def outQ (t : List (Int × Int × Nat)) (l : List Tth) (x lim : Nat) : Int × Int :=
  if tcode t l (plainV x && part lim) = 0 then (qwF t x lim 104 0 l, 0) else (0, tcode t l (plainV x && part lim))
def QwQ (a : Int × Int) (w : World) (e : Ending) (w' : World) : Prop := e = .returned (.tuple #[.int .i64 a.1, .int .i64 a.2]) ∧ Below w.heap.size w w'
set_option maxHeartbeats 8000000 in
theorem quiet_spec (A B : Option Addr) (c c' : Nat) (t : List (Int × Int × Nat)) (l : List Tth) (x r0 : Nat) (hr0 : FV r0 x) (q0 lim : Nat) (hq0 : FV q0 lim) (w : World)
    (hA : Kd.C kP w A t.length t) (hn : t.length ≤ 1048576) (hB : Kd.C kT w B l.length l) (hm : l.length ≤ 1048576) :
    Calls Try.prog 19 #[.slice A t.length c, .slice B l.length c', .float .f32 r0, .float .f32 q0] w (QwQ (outQ t l x lim) w) := by
  have HPl := Lib.hid (plain_spec r0 x hr0)
  have HPa : Hid (∀ w : World, Calls Try.prog 32 #[.float .f32 q0] w fun e w' => e = .returned (.bool (part lim)) ∧ w = w') := Lib.hid (fun w => by have := part_any q0 w; rwa [part_v hq0] at this)
  have HCc := Lib.hid (fun f k hk => l06Teeth_any A B c c' t l f k hk w hA hn hB hm)
  have bad : ∀ k : Int, tcode t l (plainV x && part lim) = k → (k = 1 ∨ k = 2 ∨ k = 4) → Calls Try.prog 19 #[.slice A t.length c, .slice B l.length c', .float .f32 r0, .float .f32 q0] w (QwQ (0, k) w) := by
    intro k hk h3
    have HC0 := Lib.hid (HCc.out _ k hk)
    clear HCc hk hA hB hr0 hq0
    cases hp : plainV x
    · rw [hp] at HPl HC0
      clear hp
      rcases h3 with rfl | rfl | rfl
      all_goals
        go_enter Try.func19, Try.ntmps19
        go_wp2_with (first | (go_at_call 33; refine (HPl.out _).mono ?_; rintro e w' ⟨rfl, rfl⟩) | (go_at_call 34; refine (HC0.out).mono ?_; rintro e w1 ⟨rfl, hb1⟩))
        go_ret2
        exact ⟨rfl, hb1⟩
    · rw [hp] at HPl HC0
      clear hp
      rcases h3 with rfl | rfl | rfl
      all_goals
        go_enter Try.func19, Try.ntmps19
        go_wp2_with (first | (go_at_call 33; refine (HPl.out _).mono ?_; rintro e w' ⟨rfl, rfl⟩) | (go_at_call 32; refine (HPa.out _).mono ?_; rintro e w' ⟨rfl, rfl⟩) | (go_at_call 34; refine (HC0.out).mono ?_; rintro e w1 ⟨rfl, hb1⟩))
        go_ret2
        exact ⟨rfl, hb1⟩
  by_cases h0 : tcode t l (plainV x && part lim) = 0
  · obtain ⟨ht, hall, hf, hl⟩ := tcode_ok h0
    have hp : plainV x = true := by revert hf; cases plainV x <;> simp
    have hpa : part lim = true := by revert hf; cases part lim <;> simp
    obtain ⟨a, ha⟩ : ∃ a, a = qwF t x lim 104 0 l := ⟨_, rfl⟩
    have e1 : outQ t l x lim = (a, 0) := by unfold outQ; rw [if_pos h0, ha]
    have hlen := trainOk_len' ht
    rw [e1]
    rw [hp] at HPl
    rw [hpa] at HPa
    have HC0 := Lib.hid (HCc.out true 0 (by rw [hp, hpa] at h0; exact h0))
    have HA := Lib.hid hA
    have HB0 := Lib.hid (show Kd.C kT w B l.length l ∧ l.length = t.length ∧ sidesT l ∧ qwF t x lim (104 - 0) 0 l = a from ⟨hB, hl, sides_all hall, ha.symm⟩)
    have HR := Lib.hid hr0
    have HQ := Lib.hid hq0
    have hm3 : t.length ≤ 1048575 := by omega
    clear e1 bad HCc h0 ht hall hf hl hp hpa ha hA hB hr0 hq0 hlen
    go_enter Try.func19, Try.ntmps19
    go_wp2_with (first | (go_at_call 33; refine (HPl.out _).mono ?_; rintro e w' ⟨rfl, rfl⟩) | (go_at_call 32; refine (HPa.out _).mono ?_; rintro e w' ⟨rfl, rfl⟩) | (go_at_call 34; refine (HC0.out).mono ?_; rintro e w1 ⟨rfl, hb1⟩))
    have HB1 := Lib.hid (show Kd.C kT w1 B l.length l ∧ l.length = t.length ∧ sidesT l ∧ qwF t x lim (104 - 0) 0 l = a from ⟨Kd.C_below HB0.out.1 hb1, HB0.out.2⟩)
    clear HB0 HC0 HPl HPa
    go_loopw [1, 11] (fun v i wr => ∃ k : Nat, ∃ A2 c2, ∃ l2 : List Tth, k ≤ 104 ∧ i = .int .i64 k ∧ v = .slice A2 l2.length c2 ∧ Hid (Kd.C kT wr A2 l2.length l2 ∧ l2.length = t.length ∧ sidesT l2 ∧ qwF t x lim (104 - k) k l2 = a) ∧ Below w.heap.size w wr) (fun _ i _ => 104 - (intOf i).toNat)
    case atStart => exact ⟨0, B, c', l, by omega, rfl, rfl, HB1, hb1⟩
    case round =>
      clear HB1 hb1
      obtain ⟨k, A2, c2, l2, hk, rfl, rfl, H1, hb⟩ := hrel
      by_cases hlt : k < 104
      · have HW := Lib.hid (week_spec A A2 c c2 t l2 x r0 HR.out q0 lim HQ.out 0 (by omega) wr (Kd.C_below HA.out hb) H1.out.1 H1.out.2.1 hm3 H1.out.2.2.1)
        go_wp2_with fail
        go_at_call 35
        refine (HW.out).mono ?_
        rintro e w2 ⟨u, v, rfl, hu, hv, hb2⟩
        obtain ⟨A3, c3, rfl, _, hC3⟩ := hu.reads
        obtain ⟨A4, c4, rfl, _, _⟩ := hv.reads
        have HC3 := Lib.hid hC3
        have hb3 := bstep hb hb2
        clear HW hu hv hC3
        by_cases hz : (chgL 0 lim l2 l2.length).length = 0
        · have HG := Lib.hid (qwF_go (t := t) (x := x) hlt hz)
          have hz2 : ¬ 0 < (chgL 0 lim l2 l2.length).length := by omega
          clear hz
          go_wp2
          go_roundw
          case rel => exact ⟨k + 1, A3, c3, weekL t l2 x lim l2.length, hlt, by go_num, rfl, Lib.hid ⟨HC3.out, by rw [weekL_length]; exact H1.out.2.1, sides_week H1.out.2.2.1, by rw [← HG.out]; exact H1.out.2.2.2⟩, hb3⟩
          case measure => simp [intOf]; omega
        · have HG := Lib.hid (qwF_stop (t := t) (x := x) hlt hz)
          have hz2 : 0 < (chgL 0 lim l2 l2.length).length := by omega
          clear hz
          go_wp2
          go_ret2
          exact ⟨by rw [← H1.out.2.2.2, HG.out]; rfl, hb3⟩
      · obtain rfl : k = 104 := by omega
        have HG : Hid ((104 : Int) = a) := Lib.hid H1.out.2.2.2
        go_wp2
        go_ret2
        exact ⟨by rw [← HG.out]; rfl, hb⟩
  · have e1 : outQ t l x lim = (0, tcode t l (plainV x && part lim)) := by unfold outQ; rw [if_neg h0]
    rw [e1]
    exact bad _ rfl (by have := tcode_cases t l (plainV x && part lim); omega)
end Go.Proofs.Ytgdaompppclnlaa
namespace Go.Proofs.Ytgdaompppclnlaa
open Go.RowKit Ieee
open Go.Proofs.YtgdaompppclnlaaW.PrintWords
set_option maxRecDepth 100000
attribute [local irreducible] wpRel

set_option maxHeartbeats 8000000 in
theorem quiet_impl (A B : Option Addr) (c c' : Nat) (t : List (Int × Int × Nat)) (l : List Tth) (x r0 : Nat) (hr0 : FV r0 x) (q0 lim : Nat) (hq0 : FV q0 lim) (w : World)
    (hA : Kd.C kP w A t.length t) (hn : t.length ≤ 1048576) (hB : Kd.C kT w B l.length l) (hm : l.length ≤ 1048576) :
    Calls Try.prog 18 #[.slice A t.length c, .slice B l.length c', .float .f32 r0, .float .f32 q0] w (QwQ (outQ t l x lim) w) := by
  have HPl := Lib.hid (plain_impl r0 x hr0)
  have HPa : Hid (∀ w : World, Calls Try.prog 26 #[.float .f32 q0] w fun e w' => e = .returned (.bool (part lim)) ∧ w = w') := Lib.hid (fun w => by have := isPart_any q0 w; rwa [part_v hq0] at this)
  have HCc := Lib.hid (fun f k hk => teethCode_any A B c c' t l f k hk w hA hn hB hm)
  have bad : ∀ k : Int, tcode t l (plainV x && part lim) = k → (k = 1 ∨ k = 2 ∨ k = 4) → Calls Try.prog 18 #[.slice A t.length c, .slice B l.length c', .float .f32 r0, .float .f32 q0] w (QwQ (0, k) w) := by
    intro k hk h3
    have HC0 := Lib.hid (HCc.out _ k hk)
    clear HCc hk hA hB hr0 hq0
    cases hp : plainV x
    · rw [hp] at HPl HC0
      clear hp
      rcases h3 with rfl | rfl | rfl
      all_goals
        go_enter Try.func18, Try.ntmps18
        go_wp2_with (first | (go_at_call 29; refine (HPl.out _).mono ?_; rintro e w' ⟨rfl, rfl⟩) | (go_at_call 25; refine (HC0.out).mono ?_; rintro e w1 ⟨rfl, hb1⟩))
        go_ret2
        exact ⟨rfl, hb1⟩
    · rw [hp] at HPl HC0
      clear hp
      rcases h3 with rfl | rfl | rfl
      all_goals
        go_enter Try.func18, Try.ntmps18
        go_wp2_with (first | (go_at_call 29; refine (HPl.out _).mono ?_; rintro e w' ⟨rfl, rfl⟩) | (go_at_call 26; refine (HPa.out _).mono ?_; rintro e w' ⟨rfl, rfl⟩) | (go_at_call 25; refine (HC0.out).mono ?_; rintro e w1 ⟨rfl, hb1⟩))
        go_ret2
        exact ⟨rfl, hb1⟩
  by_cases h0 : tcode t l (plainV x && part lim) = 0
  · obtain ⟨ht, hall, hf, hl⟩ := tcode_ok h0
    have hp : plainV x = true := by revert hf; cases plainV x <;> simp
    have hpa : part lim = true := by revert hf; cases part lim <;> simp
    obtain ⟨a, ha⟩ : ∃ a, a = qwF t x lim 104 0 l := ⟨_, rfl⟩
    have e1 : outQ t l x lim = (a, 0) := by unfold outQ; rw [if_pos h0, ha]
    have hlen := trainOk_len' ht
    rw [e1]
    rw [hp] at HPl
    rw [hpa] at HPa
    have HC0 := Lib.hid (HCc.out true 0 (by rw [hp, hpa] at h0; exact h0))
    have HA := Lib.hid hA
    obtain ⟨b, off, _, _, _, _, rfl, _⟩ := at_kT hB 0 (by omega)
    have HCl : Hid (∀ w1, Below w.heap.size w w1 → Calls Try.prog 30 #[.slice (some ⟨b, off, none⟩) l.length c'] w1 fun e w' => ∃ v, e = .returned v ∧ RW kT 44 w' w1.heap.size v l ∧ Below w1.heap.size w1 w') := Lib.hid (fun w1 hb => cloneT_any b off c' l w1 (Kd.C_below hB hb) hm)
    have HB0 := Lib.hid (show l.length = t.length ∧ sidesT l ∧ qwF t x lim (104 - 0) 0 l = a from ⟨hl, sides_all hall, ha.symm⟩)
    have HR := Lib.hid hr0
    have HQ := Lib.hid hq0
    have hm3 : t.length ≤ 1048575 := by omega
    have h1t : 1 ≤ t.length := by omega
    have h1l : 0 < l.length := by omega
    clear e1 bad HCc h0 ht hall hf hl hp hpa ha hA hB hr0 hq0 hlen
    go_enter Try.func18, Try.ntmps18
    go_wp2_with (first | (go_at_call 29; refine (HPl.out _).mono ?_; rintro e w' ⟨rfl, rfl⟩) | (go_at_call 26; refine (HPa.out _).mono ?_; rintro e w' ⟨rfl, rfl⟩) | (go_at_call 25; refine (HC0.out).mono ?_; rintro e w1 ⟨rfl, hb1⟩))
    go_at_call 30
    refine (HCl.out _ hb1).mono ?_
    rintro e w2 ⟨v, rfl, hv, hb2⟩
    obtain ⟨g, c2, rfl, hge, hgl, _⟩ := Kd.R_form hv.out h1l
    have hb3 := bstep hb1 hb2
    have hwg : w.heap.size ≤ g := Nat.le_trans hb1.size hge
    have HV := Lib.hid (hv.lower hb1.size)
    clear HC0 HPl HPa HCl hv hb2 hge hgl
    go_wp2
    go_loopw [27] (fun i wr => ∃ k : Nat, ∃ l2 : List Tth, k ≤ 104 ∧ i = .int .i64 k ∧ Hid (RW kT 44 wr w.heap.size (.slice (some ⟨g, 0, none⟩) l.length c2) l2) ∧ Hid (l2.length = l.length ∧ sidesT l2 ∧ qwF t x lim (104 - k) k l2 = a) ∧ Below w.heap.size w wr) (fun i _ => 104 - (intOf i).toNat)
    case atStart => exact ⟨0, l, by omega, rfl, HV, Lib.hid ⟨rfl, HB0.out.2⟩, hb3⟩
    case round =>
      clear HV hb3
      obtain ⟨k, l2, hk, rfl, H0, H1, hb⟩ := hrel
      by_cases hlt : k < 104
      · have hw1 := week_impl A c g c2 t l2 x r0 HR.out q0 lim HQ.out 0 (by omega) w.heap.size wr (fun w' hw' => Kd.C_below HA.out (Gr.below hb hw' hwg)) (by rw [H1.out.1]; exact H0.out) (by rw [H1.out.1]; exact HB0.out.1) h1t hm3 H1.out.2.1
        rw [H1.out.1] at hw1
        have HW := Lib.hid hw1
        clear hw1
        go_wp2_with fail
        go_at_call 31
        refine (HW.out).mono ?_
        rintro e w4 ⟨v, rfl, hv, hu, hg4⟩
        rw [H1.out.1] at hu
        obtain ⟨A4, c4, rfl, _, _⟩ := hv.reads
        have HU := Lib.hid hu
        have hb4 := Gr.below hb hg4 hwg
        clear HW hu hv hg4
        by_cases hz : (chgL 0 lim l2 l2.length).length = 0
        · have HG := Lib.hid (qwF_go (t := t) (x := x) hlt hz)
          have hz2 : ¬ 0 < (chgL 0 lim l2 l2.length).length := by omega
          clear hz
          go_wp2
          go_roundw
          case rel => exact ⟨k + 1, weekL t l2 x lim l2.length, hlt, by go_num, by rw [H1.out.1] ; exact HU, Lib.hid ⟨by rw [weekL_length]; exact H1.out.1, sides_week H1.out.2.1, by rw [← HG.out]; exact H1.out.2.2⟩, hb4⟩
          case measure => simp [intOf]; omega
        · have HG := Lib.hid (qwF_stop (t := t) (x := x) hlt hz)
          have hz2 : 0 < (chgL 0 lim l2 l2.length).length := by omega
          clear hz
          go_wp2
          go_ret2
          exact ⟨by rw [← H1.out.2.2, HG.out]; rfl, hb4⟩
      · obtain rfl : k = 104 := by omega
        have HG : Hid ((104 : Int) = a) := Lib.hid H1.out.2.2
        go_wp2
        go_ret2
        exact ⟨by rw [← HG.out]; rfl, hb⟩
  · have e1 : outQ t l x lim = (0, tcode t l (plainV x && part lim)) := by unfold outQ; rw [if_neg h0]
    rw [e1]
    exact bad _ rfl (by have := tcode_cases t l (plainV x && part lim); omega)

end Go.Proofs.Ytgdaompppclnlaa
