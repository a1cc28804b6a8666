/- Rows of changes compared, marked and held. Several weeks: the reference's side. Several weeks: the program's side; one week, both sides. One week: both sides. -/
import Derived.Test.YtgdaompppclnlaaWeek
import Derived.Test.YtgdaompppclnlaaTeeth4
import Derived.Test.YtgdaompppclnlaaQuietA
namespace Go.Proofs.Ytgdaompppclnlaa
open Go.RowKit Ieee
open Go.Proofs.YtgdaompppclnlaaW.PrintWords
set_option maxRecDepth 100000
attribute [local irreducible] wpRel

def zC : Chg := (0, 0, false)
theorem at_kC {w : World} {A : Option Addr} {n : Nat} {l : List Chg} (h : Kd.C kC w A n l) (i : Nat) (hi : i < n) :
    ∃ b off p q c, A = some ⟨b, off, none⟩ ∧ b < w.heap.size ∧ w.cell? ⟨b, off + i * 3, none⟩ = some (.int .i16 p) ∧ w.cell? ⟨b, off + i * 3 + 1, none⟩ = some (.int .i8 q) ∧ w.cell? ⟨b, off + i * 3 + 2, none⟩ = some (.bool c) ∧ l.getD i zC = (p, q, c) ∧ cB (p, q, c) := by
  obtain ⟨b, off, c, e, hb, _, hK, hc⟩ := C_at h (show 0 < kC.sz by decide) zC i hi
  obtain ⟨rfl, hB⟩ := kC_open hK
  exact ⟨b, off, _, _, _, e, hb, hc 0 _ rfl, hc 1 _ rfl, hc 2 _ rfl, rfl, hB⟩
theorem b16' (e : Int) : -32768 ≤ IntKind.i16.wrap e ∧ IntKind.i16.wrap e ≤ 32767 := by
  have := wf_wrap .i16 e
  simpa [Lit.wf, IntKind.min, IntKind.max, IntKind.signed, IntKind.bits] using this
def mkC1 (m : Int) (i : Nat) : Chg := (IntKind.i16.wrap (m + 3 * (i : Int)), IntKind.i8.wrap (m + 3 * (i : Int) + 1), ((m + 3 * (i : Int) + 1 + 1) % 3 == 0))
def mkC (m : Int) (n : Nat) : List Chg := (List.range n).map (mkC1 m)
theorem mkC_length (m : Int) (n : Nat) : (mkC m n).length = n := by simp [mkC]
theorem mkC_get (m : Int) {n i : Nat} (h : i < n) : (mkC m n)[i]? = some (mkC1 m i) := by simp [mkC, h]
theorem mkC_getD (m : Int) {n i : Nat} (h : i < n) : (mkC m n).getD i zC = mkC1 m i := by rw [List.getD_eq_getElem?_getD, mkC_get m h]; rfl
end Go.Proofs.Ytgdaompppclnlaa
namespace Go.Proofs.Ytgdaompppclnlaa
open Go.RowKit Ieee
open Go.Proofs.YtgdaompppclnlaaW.PrintWords
set_option maxRecDepth 100000
attribute [local irreducible] wpRel

section
variable {ops : Array Oper} {rest : List Oper} {o : Oper} {a : Act} {Q : Exit → Act → World → Prop}
/-- append(v, ys...) of changes, whichever base. -/
theorem catC (base : Nat) {W : World} (hgd : o.guard = none) (s x : Operand) (ho : o.op = .call { callee := .builtin .append, args := #[s, x], argTypes := #[33, 33] })
    (v u : Value) (xs ys : List Chg) (b' : Nat) (hs : a.eval s = v) (hx : a.eval x = u)
    (HO : RW kC 47 W base v xs) (HU : RW kC 47 W b' u ys) (hb : base ≤ W.heap.size) (hl : xs.length + ys.length ≤ 2097152)
    (h : ∀ v1 w1, RW kC 47 w1 base v1 (xs ++ ys) → W.grownBy w1 v.ownBlock → wpList Try.prog ops Q rest (a.put o.dst v1) w1) :
    wpList Try.prog ops Q (o :: rest) a W := by
  obtain ⟨A, c, rfl, _, hC⟩ := HU.reads
  exact Kd.R_append_rows kC (Rr := kC.K W) (w0 := W) base hgd s x 33 47 (.agg #[.int .i16 0, .int .i8 0, .bool false]) 4 ho Try.underlying33 info_change rfl (by decide) (by decide) v xs ys A ys.length c (fun _ => True) (fun _ => False) hs hx HO hC (fun x cs h => by
    obtain ⟨rfl, h1⟩ := kC_open h
    exact kC_mkM _ _ _ h1) (fun _ h => h.elim) (fun _ _ => trivial) (Below.refl _ _) hb (by omega) fun v1 w1 h1 _ h2 _ => h v1 w1 h1 h2
end
/-- Teeth and changes behind n weeks. -/
def yrF (t : List (Int × Int × Nat)) (l : List Tth) (xs : List Nat) (lim : Nat) : Nat → List Tth × List Chg
  | 0 => (l, [])
  | n + 1 => (weekL t (yrF t l xs lim n).1 (xs.getD n 0) lim (yrF t l xs lim n).1.length, (yrF t l xs lim n).2 ++ chgL (n : Int) lim (yrF t l xs lim n).1 (yrF t l xs lim n).1.length)
theorem yrF_len (t : List (Int × Int × Nat)) (l : List Tth) (xs : List Nat) (lim n : Nat) : (yrF t l xs lim n).1.length = l.length := by
  induction n with
  | zero => rfl
  | succ n ih => unfold yrF; rw [weekL_length]; exact ih
theorem yrF_sides {t : List (Int × Int × Nat)} {l : List Tth} {xs : List Nat} {lim : Nat} (h : sidesT l) (n : Nat) : sidesT (yrF t l xs lim n).1 := by
  induction n with
  | zero => exact h
  | succ n ih => unfold yrF; exact sides_week ih
theorem yrF_chg (t : List (Int × Int × Nat)) (l : List Tth) (xs : List Nat) (lim n : Nat) : (yrF t l xs lim n).2.length ≤ n * l.length := by
  induction n with
  | zero => simp [yrF]
  | succ n ih =>
    unfold yrF
    rw [List.length_append]
    have h1 := chgL_le (n : Int) lim (yrF t l xs lim n).1 (yrF t l xs lim n).1.length
    have h2 := yrF_len t l xs lim n
    rw [Nat.succ_mul]
    omega
def tcY (t : List (Int × Int × Nat)) (l : List Tth) (xs : List Nat) (lim : Nat) : Int := tcode t l (part lim && xs.all plainV)
def outY (t : List (Int × Int × Nat)) (l : List Tth) (xs : List Nat) (lim : Nat) : List Tth × List Chg × Int :=
  if tcY t l xs lim = 0 then (if xs.length ≤ 104 then ((yrF t l xs lim xs.length).1, (yrF t l xs lim xs.length).2, 0) else ([], [], 3)) else ([], [], tcY t l xs lim)
def YrQ (a : List Tth × List Chg × Int) (w : World) (e : Ending) (w' : World) : Prop :=
  ∃ u v, e = .returned (.tuple #[u, v, .int .i64 a.2.2]) ∧ RW kT 44 w' w.heap.size u a.1 ∧ RW kC 47 w' w.heap.size v a.2.1 ∧ Below w.heap.size w w'
theorem outY_len (t : List (Int × Int × Nat)) (l : List Tth) (xs : List Nat) (lim : Nat) : (outY t l xs lim).1.length ≤ 8 ∧ (outY t l xs lim).2.1.length ≤ 832 := by
  unfold outY
  split
  · rename_i h
    obtain ⟨ht, _, _, hl⟩ := tcode_ok h
    have hlen := trainOk_len' ht
    split
    · rename_i h104
      have h1 := yrF_len t l xs lim xs.length
      have h2 := yrF_chg t l xs lim xs.length
      have h3 : xs.length * l.length ≤ 104 * 8 := Nat.mul_le_mul h104 (by omega)
      dsimp only
      omega
    · simp
  · simp
theorem take_all_false {α : Type} {p : α → Bool} {l : List α} {k : Nat} (h : (l.take k).all p = false) : l.all p = false := by
  rw [List.all_eq_false] at h ⊢
  obtain ⟨x, hx, hp⟩ := h
  exact ⟨x, List.mem_of_mem_take hx, hp⟩
theorem take_all_step {α : Type} {p : α → Bool} {l : List α} {z : α} {k : Nat} (hk : k < l.length) : (l.take (k + 1)).all p = ((l.take k).all p && p (l.getD k z)) := by
  rw [List.take_succ_eq_append_getElem hk, List.all_append, List.getD_eq_getElem?_getD, List.getElem?_eq_getElem hk]
  simp
set_option maxHeartbeats 16000000 in
theorem year_spec (A B D : Option Addr) (c c' d : Nat) (t : List (Int × Int × Nat)) (l : List Tth) (xs : List Nat) (q0 lim : Nat) (hq0 : FV q0 lim) (w : World)
    (hA : Kd.C kP w A t.length t) (hn : t.length ≤ 1048576) (hB : Kd.C kT w B l.length l) (hm : l.length ≤ 1048576) (hD : Kd.C kf w D xs.length xs) (hd : xs.length ≤ 1048576) :
    Calls Try.prog 10 #[.slice A t.length c, .slice B l.length c', .slice D xs.length d, .float .f32 q0] w (YrQ (outY t l xs lim) w) := by
  have HPa : Hid (∀ w : World, Calls Try.prog 32 #[.float .f32 q0] w fun e w' => e = .returned (.bool (part lim)) ∧ w = w') := Lib.hid (fun w => by have := part_any q0 w; rwa [part_v hq0] at this)
  have HCc := Lib.hid (fun f k hk => l06Teeth_any A B c c' t l f k hk w hA hn hB hm)
  have HD := Lib.hid hD
  have HA := Lib.hid hA
  have HB := Lib.hid hB
  have HQ := Lib.hid hq0
  obtain ⟨o, ho⟩ : ∃ o, o = outY t l xs lim := ⟨_, rfl⟩
  have HO := Lib.hid ho
  rw [← ho]
  clear hA hB hD hq0 ho
  go_enter Try.func10, Try.ntmps10
  go_wp2_with (go_at_call 32; refine (HPa.out _).mono ?_; rintro e w' ⟨rfl, rfl⟩)
  clear HPa
  go_loop [11, 12] (fun f i => ∃ k : Nat, k ≤ xs.length ∧ i = .int .i64 k ∧ f = .bool (part lim && (xs.take k).all plainV)) (fun _ i => xs.length - (intOf i).toNat)
  case atStart => exact ⟨0, Nat.zero_le _, rfl, by simp⟩
  case round =>
    obtain ⟨k, hk, rfl, rfl⟩ := hrel
    by_cases hlt : k < xs.length
    · obtain ⟨b, off, r, rfl, hbl, d0, hr⟩ := at_kf HD.out k hlt
      have HP := Lib.hid (plain_spec r _ hr)
      have HSt := Lib.hid (take_all_step (p := plainV) (z := 0) hlt)
      clear hr
      cases hf : (part lim && (xs.take k).all plainV)
      · have HF := Lib.hid hf
        clear hf
        go_wp2
        go_round
        case rel => exact ⟨k + 1, hlt, by go_num, by rw [HSt.out, ← Bool.and_assoc, HF.out]; rfl⟩
        case measure => simp [intOf]; omega
      · have HF := Lib.hid hf
        clear hf
        cases hp : plainV (xs.getD k 0)
        · rw [hp] at HP
          have HPP := Lib.hid hp
          clear hp
          go_wp2_with (go_at_call 33; refine (HP.out _).mono ?_; rintro e w' ⟨rfl, rfl⟩)
          go_round
          case rel => exact ⟨k + 1, hlt, by go_num, by rw [HSt.out, ← Bool.and_assoc, HF.out, HPP.out]; rfl⟩
          case measure => simp [intOf]; omega
        · rw [hp] at HP
          have HPP := Lib.hid hp
          clear hp
          go_wp2_with (go_at_call 33; refine (HP.out _).mono ?_; rintro e w' ⟨rfl, rfl⟩)
          go_round
          case rel => exact ⟨k + 1, hlt, by go_num, by rw [HSt.out, ← Bool.and_assoc, HF.out, HPP.out]; rfl⟩
          case measure => simp [intOf]; omega
    · obtain rfl : k = xs.length := by omega
      have htk : xs.take xs.length = xs := List.take_length
      rw [htk]
      clear htk
      obtain ⟨cd, hcd⟩ : ∃ cd, tcode t l (part lim && xs.all plainV) = cd := ⟨_, rfl⟩
      have HC0 := Lib.hid (HCc.out _ cd hcd)
      have HCD := Lib.hid hcd
      generalize (part lim && xs.all plainV) = f at HC0
      have hcases : cd = 0 ∨ cd = 1 ∨ cd = 2 ∨ cd = 4 := by rw [← HCD.out]; exact tcode_cases _ _ _
      clear HCc hcd
      have bad : ∀ k : Int, cd = k → (k = 1 ∨ k = 2 ∨ k = 4) → o = ([], [], k) := by
        intro k hk h3
        rw [HO.out]
        unfold outY
        rw [if_neg (by show ¬ tcode _ _ _ = 0; rw [HCD.out]; omega), show tcY t l xs lim = k from HCD.out.trans hk]
      rcases hcases with rfl | h3
      · obtain ⟨ht, hall, _, hl⟩ := tcode_ok HCD.out
        have hlen := trainOk_len' ht
        by_cases h104 : xs.length ≤ 104
        · have HO2 := Lib.hid (show o = ((yrF t l xs lim xs.length).1, (yrF t l xs lim xs.length).2, 0) by rw [HO.out]; unfold outY; rw [if_pos (show tcY t l xs lim = 0 from HCD.out), if_pos h104])
          have HSi := Lib.hid (sides_all hall)
          have HL := Lib.hid hl
          have hm3 : t.length ≤ 1048575 := by omega
          have hl8 : l.length ≤ 8 := by omega
          have hx2 : ¬ (104 : Int) < xs.length := by omega
          clear bad HO HCD ht hall hl hlen
          go_wp2_with fail
          go_at_call 34
          refine (HC0.out).mono ?_
          rintro e w1 ⟨rfl, hb1⟩
          clear HC0
          have HE := Lib.hid (RW.empty kT 44 (w := w1.alloc (.cells #[] 44)) w.heap.size w1.heap.size (heap_alloc_new w1 _) hb1.size)
          have hb2 : Below w.heap.size w (w1.alloc (.cells #[] 44)) := balloc hb1 _
          go_wp2_with (at_builtin; go_must (refine catT (w0 := w) (o := ⟨some 53, _, _, _, _, _⟩) rfl (.tmp 51) (.tmp 52) rfl (.slice (some ⟨w1.heap.size, 0, none⟩) 0 0) [] l B l.length c' ?cy53 ?cx53 HE.out (Kd.C_below HB.out hb2) hb2 (by simp; omega) ?_; (case cy53 => rfl); (case cx53 => rfl); intro v53 w53 h53 hb53; have H53 := Lib.hid h53; clear h53))
          have HT0 := Lib.hid (show RW kT 44 (w53.alloc (.cells #[] 47)) w.heap.size v53 (yrF t l xs lim 0).1 from H53.out.alloc _)
          have HC0 := Lib.hid (show RW kC 47 (w53.alloc (.cells #[] 47)) w.heap.size (.slice (some ⟨w53.heap.size, 0, none⟩) 0 0) (yrF t l xs lim 0).2 from RW.empty kC 47 (w := w53.alloc (.cells #[] 47)) w.heap.size w53.heap.size (heap_alloc_new w53 _) hb53.size)
          have hb5 : Below w.heap.size w (w53.alloc (.cells #[] 47)) := balloc hb53 _
          clear HE H53 hb1 hb2 HB
          go_loopw [14, 15, 16] (fun u v i wr => ∃ k : Nat, k ≤ xs.length ∧ i = .int .i64 k ∧ Hid (RW kT 44 wr w.heap.size u (yrF t l xs lim k).1) ∧ Hid (RW kC 47 wr w.heap.size v (yrF t l xs lim k).2) ∧ Below w.heap.size w wr) (fun _ _ i _ => xs.length - (intOf i).toNat)
          case atStart => exact ⟨0, Nat.zero_le _, rfl, HT0, HC0, hb5⟩
          case round =>
            clear HT0 HC0 hb5 hb53
            obtain ⟨k, hk, rfl, H1, H2, hb⟩ := hrel
            by_cases hlt : k < xs.length
            · obtain ⟨bD, offD, r, rfl, hblD, e0, hr⟩ := at_kf HD.out k hlt
              have d0 := (bc hb bD (offD + k) hblD).trans e0
              obtain ⟨A2, c2, rfl, _, hC2⟩ := H1.out.reads
              have hyl := yrF_len t l xs lim k
              have HYL := Lib.hid hyl
              have HW := Lib.hid (week_spec A A2 c c2 t (yrF t l xs lim k).1 (xs.getD k 0) r hr q0 lim HQ.out (k : Int) (by omega) wr (Kd.C_below HA.out hb) hC2 (hyl.trans HL.out) hm3 (yrF_sides HSi.out k))
              have hcl : (yrF t l xs lim k).2.length + (chgL (k : Int) lim (yrF t l xs lim k).1 (yrF t l xs lim k).1.length).length ≤ 2097152 := by
                have a1 := yrF_chg t l xs lim k
                have a2 := chgL_le (k : Int) lim (yrF t l xs lim k).1 (yrF t l xs lim k).1.length
                have a3 : k * l.length ≤ 104 * 8 := Nat.mul_le_mul (by omega) hl8
                omega
              have HCL := Lib.hid hcl
              clear e0 hr hC2 hyl hcl
              go_wp2_with fail
              go_at_call 35
              refine (HW.out).mono ?_
              rintro e w2 ⟨u2, v2, rfl, hu2, hv2, hb2⟩
              have hb3 := bstep hb hb2
              have M0 := Lib.hid (hu2.lower hb.size)
              have M1 := Lib.hid hv2
              have M2 := Lib.hid (H2.out.below hb2)
              have hws : w.heap.size ≤ w2.heap.size := hb3.size
              clear HW hu2 hv2 hb2
              go_wp2_with (at_builtin; go_must (refine catC w.heap.size (o := ⟨some 77, _, _, _, _, _⟩) rfl (.tmp 75) (.tmp 76) rfl u15 v2 (yrF t l xs lim k).2 (chgL (k : Int) lim (yrF t l xs lim k).1 (yrF t l xs lim k).1.length) _ ?cy77 ?cx77 M2.out M1.out hws HCL.out ?_; (case cy77 => rfl); (case cx77 => rfl); intro v77 w77 h77 hg77; have H77 := Lib.hid h77; have G77 := Lib.hid hg77; clear h77 hg77))
              have R1 := Lib.hid (M0.out.grown rfl G77.out (M0.out.ne_type M2.out ne_tc))
              have hb4 := hb3.grown G77.out hb3.size (fun j hj => M2.out.base_le j hj)
              go_roundw
              case rel => exact ⟨k + 1, hlt, by go_num, R1, H77, hb4⟩
              case measure => simp [intOf]; omega
            · obtain rfl : k = xs.length := by omega
              go_wp2
              go_ret3
              exact ⟨_, _, by rw [HO2.out]; rfl, by rw [HO2.out]; exact H1.out, by rw [HO2.out]; exact H2.out, hb⟩
        · have HO2 := Lib.hid (show o = ([], [], 3) by rw [HO.out]; unfold outY; rw [if_pos (show tcY t l xs lim = 0 from HCD.out), if_neg h104])
          have hx2 : (104 : Int) < xs.length := by omega
          clear bad HO HCD ht hall hl hlen
          go_wp2_with fail
          go_at_call 34
          refine (HC0.out).mono ?_
          rintro e w1 ⟨rfl, hb1⟩
          have HE0 := Lib.hid ((RW.empty kT 44 (w := w1.alloc (.cells #[] 44)) w.heap.size w1.heap.size (heap_alloc_new w1 _) hb1.size).alloc (.cells #[] 47))
          have HE1 := Lib.hid (RW.empty kC 47 (w := (w1.alloc (.cells #[] 44)).alloc (.cells #[] 47)) w.heap.size (w1.heap.size + 1) (heap_two w1 _ _) (by have := hb1.size; omega))
          go_wp2
          go_ret3
          exact ⟨_, _, by rw [HO2.out]; rfl, by rw [HO2.out]; exact HE0.out, by rw [HO2.out]; exact HE1.out, balloc (balloc hb1 _) _⟩
      · have HO2 := Lib.hid (bad cd rfl h3)
        clear bad HO HCD
        rcases h3 with rfl | rfl | rfl
        all_goals
          go_wp2_with fail
          go_at_call 34
          refine (HC0.out).mono ?_
          rintro e w1 ⟨rfl, hb1⟩
          have HE0 := Lib.hid ((RW.empty kT 44 (w := w1.alloc (.cells #[] 44)) w.heap.size w1.heap.size (heap_alloc_new w1 _) hb1.size).alloc (.cells #[] 47))
          have HE1 := Lib.hid (RW.empty kC 47 (w := (w1.alloc (.cells #[] 44)).alloc (.cells #[] 47)) w.heap.size (w1.heap.size + 1) (heap_two w1 _ _) (by have := hb1.size; omega))
          go_wp2
          go_ret3
          exact ⟨_, _, by rw [HO2.out]; rfl, by rw [HO2.out]; exact HE0.out, by rw [HO2.out]; exact HE1.out, balloc (balloc hb1 _) _⟩
end Go.Proofs.Ytgdaompppclnlaa
namespace Go.Proofs.Ytgdaompppclnlaa
open Go.RowKit Ieee
open Go.Proofs.YtgdaompppclnlaaW.PrintWords
set_option maxRecDepth 100000
attribute [local irreducible] wpRel

theorem yearOf1_any (r x : Nat) (hr : FV r x) (w : World) :
    Calls Try.prog 28 #[.float .f32 r] w fun e w' => e = .returned (.bool (!plainV x)) ∧ w = w' := by
  have HP := Lib.hid (plain_impl r x hr)
  clear hr
  go_enter Try.func28, Try.ntmps28
  go_wp2_with (go_at_call 29; refine (HP.out _).mono ?_; rintro e w' ⟨rfl, rfl⟩)
  go_ret
  exact ⟨rfl, rfl⟩
set_option maxHeartbeats 4000000 in
theorem indexY_any (A : Option Addr) (c : Nat) (l : List Nat) (w : World) (hA : Kd.C kf w A l.length l) (hm : l.length ≤ 1048576) :
    Calls Try.prog 48 #[.slice A l.length c, .func (.func 28) #[] #[]] w (IdxQ (!l.all plainV) w) := by
  have HA := Lib.hid hA
  clear hA
  go_enter Try.func48, Try.ntmps48
  go_wp2
  go_loop [8] (fun i => ∃ k : Nat, k ≤ l.length ∧ i = .int .i64 k ∧ Hid ((l.take k).all plainV = true)) (fun i => l.length - (intOf i).toNat)
  case atStart => exact ⟨0, Nat.zero_le _, rfl, Lib.hid (by simp)⟩
  case round =>
    obtain ⟨k, hk, rfl, HK⟩ := hrel
    by_cases hlt : k < l.length
    · obtain ⟨b, off, r, rfl, hbl, d0, hr⟩ := at_kf HA.out k hlt
      have HC := Lib.hid (yearOf1_any r _ hr)
      clear hr
      cases hp : plainV (l.getD k 0)
      · rw [hp] at HC
        have HD := Lib.hid hp
        clear hp
        go_wp2_with (go_at_call 28; refine (HC.out _).mono ?_; rintro e w' ⟨rfl, rfl⟩)
        go_ret
        exact ⟨_, rfl, by rw [all_false hlt HD.out]; simp, Below.refl _ _⟩
      · rw [hp] at HC
        have HD := Lib.hid hp
        clear hp
        go_wp2_with (go_at_call 28; refine (HC.out _).mono ?_; rintro e w' ⟨rfl, rfl⟩)
        go_round
        case rel => exact ⟨k + 1, by omega, by go_num, Lib.hid (take_all_succ hlt HK.out HD.out)⟩
        case measure => simp [intOf]; omega
    · have e : l.take k = l := List.take_of_length_le (by omega)
      rw [e] at HK
      go_wp2
      go_ret
      exact ⟨_, rfl, by rw [HK.out]; simp, Below.refl _ _⟩
theorem containsY_any (A : Option Addr) (c : Nat) (l : List Nat) (w : World) (hA : Kd.C kf w A l.length l) (hm : l.length ≤ 1048576) :
    Calls Try.prog 27 #[.slice A l.length c, .func (.func 28) #[] #[]] w fun e w' => e = .returned (.bool (!l.all plainV)) ∧ Below w.heap.size w w' := by
  have HI := Lib.hid (indexY_any A c l w hA hm)
  clear hA
  go_enter Try.func27, Try.ntmps27
  go_wp2_with (go_at_call 48; refine (HI.out).mono ?_; rintro e w1 ⟨i, rfl, hi, hb1⟩; have HX := Lib.hid hi; clear hi)
  go_ret
  exact ⟨by rw [← HX.out]; rfl, hb1⟩
set_option maxHeartbeats 16000000 in
/-- The program's year where its code is none. -/
theorem year_ok (A D : Option Addr) (b off : Nat) (c c' d : Nat) (t : List (Int × Int × Nat)) (l : List Tth) (xs : List Nat) (q0 lim : Nat) (hq0 : FV q0 lim) (w : World)
    (hA : Kd.C kP w A t.length t) (hB : Kd.C kT w (some ⟨b, off, none⟩) l.length l) (hD : Kd.C kf w D xs.length xs) (h104 : xs.length ≤ 104)
    (hpa : part lim = true) (hpl : xs.all plainV = true) (ht : trainOk t = true) (hall : l.all okT = true) (hl : l.length = t.length) :
    Calls Try.prog 9 #[.slice A t.length c, .slice (some ⟨b, off, none⟩) l.length c', .slice D xs.length d, .float .f32 q0] w (YrQ ((yrF t l xs lim xs.length).1, (yrF t l xs lim xs.length).2, 0) w) := by
  have hlen := trainOk_len' ht
  have HPa : Hid (∀ w : World, Calls Try.prog 26 #[.float .f32 q0] w fun e w' => e = .returned (.bool true) ∧ w = w') := Lib.hid (fun w => by have := isPart_any q0 w; rwa [part_v hq0, hpa] at this)
  have hcy := containsY_any D d xs w hD (by omega)
  rw [hpl] at hcy
  have HCy := Lib.hid hcy
  have HC0 : Hid (∀ w1, Below w.heap.size w w1 → Calls Try.prog 25 #[.slice A t.length c, .slice (some ⟨b, off, none⟩) l.length c', .bool true] w1 fun e w' => e = .returned (.int .i64 0) ∧ Below w1.heap.size w1 w') := Lib.hid (fun w1 hb => teethCode_any A _ c c' t l true 0 (by simp [codeT, ht, hall, hl]) w1 (Kd.C_below hA hb) (by omega) (Kd.C_below hB hb) (by omega))
  have HCl : Hid (∀ w1, Below w.heap.size w w1 → Calls Try.prog 30 #[.slice (some ⟨b, off, none⟩) l.length c'] w1 fun e w' => ∃ v, e = .returned v ∧ RW kT 44 w' w1.heap.size v l ∧ Below w1.heap.size w1 w') := Lib.hid (fun w1 hb => cloneT_any b off c' l w1 (Kd.C_below hB hb) (by omega))
  have HA := Lib.hid hA
  have HD := Lib.hid hD
  have HQ := Lib.hid hq0
  have HSi := Lib.hid (sides_all hall)
  have HL := Lib.hid hl
  have hm3 : t.length ≤ 1048575 := by omega
  have h1t : 1 ≤ t.length := by omega
  have h1l : 0 < l.length := by omega
  have hl8 : l.length ≤ 8 := by omega
  have hx2 : ¬ (104 : Int) < xs.length := by omega
  clear hA hB hD hq0 hpa hpl ht hall hl hlen hcy
  go_enter Try.func9, Try.ntmps9
  go_wp2_with (first | (go_at_call 26; refine (HPa.out _).mono ?_; rintro e w' ⟨rfl, rfl⟩) | (go_at_call 27; refine (HCy.out).mono ?_; rintro e w1 ⟨rfl, hb1⟩) | (go_at_call 25; refine (HC0.out _ hb1).mono ?_; rintro e w2 ⟨rfl, hb2⟩))
  have hb3 := bstep hb1 hb2
  go_at_call 30
  refine (HCl.out _ hb3).mono ?_
  rintro e w4 ⟨v, rfl, hv, hb4⟩
  obtain ⟨g, c2, rfl, hge, hgl, _⟩ := Kd.R_form hv.out h1l
  have hb5 := bstep hb3 hb4
  have hwg : w.heap.size ≤ g := Nat.le_trans hb3.size hge
  have HV := Lib.hid (show RW kT 44 (w4.alloc (.cells #[] 47)) w.heap.size (.slice (some ⟨g, 0, none⟩) l.length c2) (yrF t l xs lim 0).1 from (hv.lower hb3.size).alloc _)
  have HE := Lib.hid (show RW kC 47 (w4.alloc (.cells #[] 47)) w.heap.size (.slice (some ⟨w4.heap.size, 0, none⟩) 0 0) (yrF t l xs lim 0).2 from RW.empty kC 47 (w := w4.alloc (.cells #[] 47)) w.heap.size w4.heap.size (heap_alloc_new w4 _) hb5.size)
  have hb6 : Below w.heap.size w (w4.alloc (.cells #[] 47)) := balloc hb5 _
  clear HC0 HPa HCl HCy hv hb1 hb2 hb3 hb4 hb5 hge hgl
  go_wp2
  go_loopw [13, 39] (fun v i wr => ∃ k : Nat, k ≤ xs.length ∧ i = .int .i64 k ∧ Hid (RW kT 44 wr w.heap.size (.slice (some ⟨g, 0, none⟩) l.length c2) (yrF t l xs lim k).1) ∧ Hid (RW kC 47 wr w.heap.size v (yrF t l xs lim k).2) ∧ Below w.heap.size w wr) (fun _ i _ => xs.length - (intOf i).toNat)
  case atStart => exact ⟨0, Nat.zero_le _, rfl, HV, HE, hb6⟩
  case round =>
    clear HV HE hb6
    obtain ⟨k, hk, rfl, H1, H2, hb⟩ := hrel
    by_cases hlt : k < xs.length
    · obtain ⟨bD, offD, r, rfl, hblD, e0, hr⟩ := at_kf HD.out k hlt
      have d0 := (bc hb bD (offD + k) hblD).trans e0
      have hyl := yrF_len t l xs lim k
      have hw1 := week_impl A c g c2 t (yrF t l xs lim k).1 (xs.getD k 0) r hr q0 lim HQ.out (k : Int) (by omega) w.heap.size wr (fun w' hw' => Kd.C_below HA.out (Gr.below hb hw' hwg)) (by rw [hyl]; exact H1.out) (by rw [hyl]; exact HL.out) h1t hm3 (yrF_sides HSi.out k)
      rw [hyl] at hw1
      have HYL := Lib.hid hyl
      have HW := Lib.hid hw1
      have hcl : (yrF t l xs lim k).2.length + (chgL (k : Int) lim (yrF t l xs lim k).1 (yrF t l xs lim k).1.length).length ≤ 2097152 := by
        have a1 := yrF_chg t l xs lim k
        have a2 := chgL_le (k : Int) lim (yrF t l xs lim k).1 (yrF t l xs lim k).1.length
        have a3 : k * l.length ≤ 104 * 8 := Nat.mul_le_mul (by omega) hl8
        omega
      have HCL := Lib.hid hcl
      clear e0 hr hyl hw1 hcl
      go_wp2_with fail
      go_at_call 31
      refine (HW.out).mono ?_
      rintro e w2 ⟨v2, rfl, hv2, hu2, hg2⟩
      rw [HYL.out] at hu2
      have hb3 := Gr.below hb hg2 hwg
      have hws : w.heap.size ≤ w2.heap.size := hb3.size
      have M0 : Hid (RW kT 44 w2 w.heap.size (.slice (some ⟨g, 0, none⟩) l.length c2) (yrF t l xs lim (k + 1)).1) := Lib.hid (by show RW _ _ _ _ _ (weekL t (yrF t l xs lim k).1 (xs.getD k 0) lim (yrF t l xs lim k).1.length); rw [HYL.out]; exact hu2)
      have M1 := Lib.hid hv2
      have M2 := Lib.hid (H2.out.grown rfl hg2 (fun j hj => H2.out.ne_type H1.out ne_ct j hj))
      clear HW hu2 hv2 hg2
      go_wp2_with (at_builtin; go_must (refine catC w.heap.size (o := ⟨some 52, _, _, _, _, _⟩) rfl (.tmp 44) (.tmp 51) rfl u13 v2 (yrF t l xs lim k).2 (chgL (k : Int) lim (yrF t l xs lim k).1 (yrF t l xs lim k).1.length) _ ?cy77 ?cx77 M2.out M1.out hws HCL.out ?_; (case cy77 => rfl); (case cx77 => rfl); intro v77 w77 h77 hg77; have H77 := Lib.hid h77; have G77 := Lib.hid hg77; clear h77 hg77))
      have R1 := Lib.hid (M0.out.grown rfl G77.out (M0.out.ne_type M2.out ne_tc))
      have hb4 := hb3.grown G77.out hb3.size (fun j hj => M2.out.base_le j hj)
      go_roundw
      case rel => exact ⟨k + 1, hlt, by go_num, R1, H77, hb4⟩
      case measure => simp [intOf]; omega
    · obtain rfl : k = xs.length := by omega
      go_wp2
      go_ret3
      exact ⟨_, _, rfl, H1.out, H2.out, hb⟩
set_option maxHeartbeats 8000000 in
theorem year_impl (A B D : Option Addr) (c c' d : Nat) (t : List (Int × Int × Nat)) (l : List Tth) (xs : List Nat) (q0 lim : Nat) (hq0 : FV q0 lim) (w : World)
    (hA : Kd.C kP w A t.length t) (hn : t.length ≤ 1048576) (hB : Kd.C kT w B l.length l) (hm : l.length ≤ 1048576) (hD : Kd.C kf w D xs.length xs) (hd : xs.length ≤ 1048576) :
    Calls Try.prog 9 #[.slice A t.length c, .slice B l.length c', .slice D xs.length d, .float .f32 q0] w (YrQ (outY t l xs lim) w) := by
  by_cases h0 : tcY t l xs lim = 0
  · obtain ⟨ht, hall, hf, hl⟩ := tcode_ok h0
    have hpa : part lim = true := by revert hf; cases part lim <;> simp
    have hpl : xs.all plainV = true := by revert hf; rw [hpa]; cases xs.all plainV <;> simp
    have hlen := trainOk_len' ht
    by_cases h104 : xs.length ≤ 104
    · have e1 : outY t l xs lim = ((yrF t l xs lim xs.length).1, (yrF t l xs lim xs.length).2, 0) := by unfold outY; rw [if_pos h0, if_pos h104]
      rw [e1]
      obtain ⟨b, off, _, _, _, _, rfl, _⟩ := at_kT hB 0 (by omega)
      exact year_ok A D b off c c' d t l xs q0 lim hq0 w hA hB hD h104 hpa hpl ht hall hl
    · have e1 : outY t l xs lim = ([], [], 3) := by unfold outY; rw [if_pos h0, if_neg h104]
      rw [e1]
      have HPa : Hid (∀ w : World, Calls Try.prog 26 #[.float .f32 q0] w fun e w' => e = .returned (.bool true) ∧ w = w') := Lib.hid (fun w => by have := isPart_any q0 w; rwa [part_v hq0, hpa] at this)
      have hcy := containsY_any D d xs w hD hd
      rw [hpl] at hcy
      have HCy := Lib.hid hcy
      have HC0 : Hid (∀ w1, Below w.heap.size w w1 → Calls Try.prog 25 #[.slice A t.length c, .slice B l.length c', .bool true] w1 fun e w' => e = .returned (.int .i64 0) ∧ Below w1.heap.size w1 w') := Lib.hid (fun w1 hb => teethCode_any A _ c c' t l true 0 (by simp [codeT, ht, hall, hl]) w1 (Kd.C_below hA hb) (by omega) (Kd.C_below hB hb) (by omega))
      have hx2 : (104 : Int) < xs.length := by omega
      clear hA hB hD hq0 hpa hpl ht hall hl hlen hcy e1 h0 hf
      go_enter Try.func9, Try.ntmps9
      go_wp2_with (first | (go_at_call 26; refine (HPa.out _).mono ?_; rintro e w' ⟨rfl, rfl⟩) | (go_at_call 27; refine (HCy.out).mono ?_; rintro e w1 ⟨rfl, hb1⟩) | (go_at_call 25; refine (HC0.out _ hb1).mono ?_; rintro e w2 ⟨rfl, hb2⟩))
      go_ret3
      exact ⟨_, _, rfl, RW.nil _ _ _ _, RW.nil _ _ _ _, bstep hb1 hb2⟩
  · have e1 : outY t l xs lim = ([], [], tcY t l xs lim) := by unfold outY; rw [if_neg h0]
    rw [e1]
    have bad : ∀ k : Int, tcY t l xs lim = k → (k = 1 ∨ k = 2 ∨ k = 4) → Calls Try.prog 9 #[.slice A t.length c, .slice B l.length c', .slice D xs.length d, .float .f32 q0] w (YrQ ([], [], k) w) := by
      intro k hk h3
      unfold tcY at hk
      have HPa : Hid (∀ w : World, Calls Try.prog 26 #[.float .f32 q0] w fun e w' => e = .returned (.bool (part lim)) ∧ w = w') := Lib.hid (fun w => by have := isPart_any q0 w; rwa [part_v hq0] at this)
      have HCy := Lib.hid (containsY_any D d xs w hD hd)
      have HC0 : Hid (∀ w1 f, tcode t l f = k → Below w.heap.size w w1 → Calls Try.prog 25 #[.slice A t.length c, .slice B l.length c', .bool f] w1 fun e w' => e = .returned (.int .i64 k) ∧ Below w1.heap.size w1 w') := Lib.hid (fun w1 f hf hb => teethCode_any A _ c c' t l f k hf w1 (Kd.C_below hA hb) hn (Kd.C_below hB hb) hm)
      clear hA hB hD hq0 e1 h0
      cases hp : part lim
      · rw [hp] at hk HPa
        have HK := Lib.hid (show tcode t l false = k from hk)
        clear hp hk
        rcases h3 with rfl | rfl | rfl
        all_goals
          go_enter Try.func9, Try.ntmps9
          go_wp2_with (first | (go_at_call 26; refine (HPa.out _).mono ?_; rintro e w' ⟨rfl, rfl⟩) | (go_at_call 25; refine (HC0.out _ _ HK.out (Below.refl _ _)).mono ?_; rintro e w2 ⟨rfl, hb2⟩))
          go_ret3
          exact ⟨_, _, rfl, RW.nil _ _ _ _, RW.nil _ _ _ _, hb2⟩
      · cases hq : xs.all plainV
        · rw [hp, hq] at hk
          rw [hp] at HPa
          rw [hq] at HCy
          have HK := Lib.hid (show tcode t l false = k from hk)
          clear hp hk hq
          rcases h3 with rfl | rfl | rfl
          all_goals
            go_enter Try.func9, Try.ntmps9
            go_wp2_with (first | (go_at_call 26; refine (HPa.out _).mono ?_; rintro e w' ⟨rfl, rfl⟩) | (go_at_call 27; refine (HCy.out).mono ?_; rintro e w1 ⟨rfl, hb1⟩) | (go_at_call 25; refine (HC0.out _ _ HK.out hb1).mono ?_; rintro e w2 ⟨rfl, hb2⟩))
            go_ret3
            exact ⟨_, _, rfl, RW.nil _ _ _ _, RW.nil _ _ _ _, bstep hb1 hb2⟩
        · rw [hp, hq] at hk
          rw [hp] at HPa
          rw [hq] at HCy
          have HK := Lib.hid (show tcode t l true = k from hk)
          clear hp hk hq
          rcases h3 with rfl | rfl | rfl
          all_goals
            go_enter Try.func9, Try.ntmps9
            go_wp2_with (first | (go_at_call 26; refine (HPa.out _).mono ?_; rintro e w' ⟨rfl, rfl⟩) | (go_at_call 27; refine (HCy.out).mono ?_; rintro e w1 ⟨rfl, hb1⟩) | (go_at_call 25; refine (HC0.out _ _ HK.out hb1).mono ?_; rintro e w2 ⟨rfl, hb2⟩))
            go_ret3
            exact ⟨_, _, rfl, RW.nil _ _ _ _, RW.nil _ _ _ _, bstep hb1 hb2⟩
    exact bad _ rfl (by unfold tcY at h0 ⊢; have := tcode_cases t l (part lim && xs.all plainV); omega)
end Go.Proofs.Ytgdaompppclnlaa
namespace Go.Proofs.Ytgdaompppclnlaa
open Go.RowKit Ieee
open Go.Proofs.YtgdaompppclnlaaW.PrintWords
set_option maxRecDepth 100000
attribute [local irreducible] wpRel

theorem tcY_one (t : List (Int × Int × Nat)) (l : List Tth) (x lim : Nat) : tcY t l [x] lim = tcode t l (plainV x && part lim) := by
  unfold tcY
  simp [Bool.and_comm]
theorem outY_one {t : List (Int × Int × Nat)} {l : List Tth} {x lim : Nat} (h : tcode t l (plainV x && part lim) = 0) : outY t l [x] lim = (weekL t l x lim l.length, chgL 0 lim l l.length, 0) := by
  unfold outY
  rw [tcY_one, if_pos h, if_pos (by simp)]
  simp [yrF]
theorem outY_bad {t : List (Int × Int × Nat)} {l : List Tth} {x lim : Nat} {k : Int} (hk : tcode t l (plainV x && part lim) = k) (h : k ≠ 0) : outY t l [x] lim = ([], [], k) := by
  unfold outY
  rw [tcY_one, hk, if_neg h]
set_option maxHeartbeats 8000000 in
theorem weekOf_spec (A B : Option Addr) (c c' : Nat) (t : List (Int × Int × Nat)) (l : List Tth) (x r0 : Nat) (hr0 : FV r0 x) (q0 lim : Nat) (hq0 : FV q0 lim) (w : World)
    (hA : Kd.C kP w A t.length t) (hn : t.length ≤ 1048576) (hB : Kd.C kT w B l.length l) (hm : l.length ≤ 1048576) :
    Calls Try.prog 15 #[.slice A t.length c, .slice B l.length c', .float .f32 r0, .float .f32 q0] w (YrQ (outY t l [x] lim) w) := by
  have HPl := Lib.hid (plain_spec r0 x hr0)
  have HPa : Hid (∀ w : World, Calls Try.prog 32 #[.float .f32 q0] w fun e w' => e = .returned (.bool (part lim)) ∧ w = w') := Lib.hid (fun w => by have := part_any q0 w; rwa [part_v hq0] at this)
  have HCc := Lib.hid (fun f k hk => l06Teeth_any A B c c' t l f k hk w hA hn hB hm)
  have bad : ∀ k : Int, tcode t l (plainV x && part lim) = k → (k = 1 ∨ k = 2 ∨ k = 4) → Calls Try.prog 15 #[.slice A t.length c, .slice B l.length c', .float .f32 r0, .float .f32 q0] w (YrQ ([], [], k) w) := by
    intro k hk h3
    have HC0 := Lib.hid (HCc.out _ k hk)
    clear HCc hk hA hB hr0 hq0
    cases hp : plainV x
    · rw [hp] at HPl HC0
      clear hp
      rcases h3 with rfl | rfl | rfl
      all_goals
        go_enter Try.func15, Try.ntmps15
        go_wp2_with (first | (go_at_call 33; refine (HPl.out _).mono ?_; rintro e w' ⟨rfl, rfl⟩) | (go_at_call 34; refine (HC0.out).mono ?_; rintro e w1 ⟨rfl, hb1⟩))
        go_ret3
        exact ⟨_, _, rfl, (RW.empty kT 44 (w := w1.alloc (.cells #[] 44)) w.heap.size w1.heap.size (heap_alloc_new w1 _) hb1.size).alloc (.cells #[] 47), RW.empty kC 47 (w := (w1.alloc (.cells #[] 44)).alloc (.cells #[] 47)) w.heap.size (w1.heap.size + 1) (heap_two w1 _ _) (by have := hb1.size; omega), balloc (balloc hb1 _) _⟩
    · rw [hp] at HPl HC0
      clear hp
      rcases h3 with rfl | rfl | rfl
      all_goals
        go_enter Try.func15, Try.ntmps15
        go_wp2_with (first | (go_at_call 33; refine (HPl.out _).mono ?_; rintro e w' ⟨rfl, rfl⟩) | (go_at_call 32; refine (HPa.out _).mono ?_; rintro e w' ⟨rfl, rfl⟩) | (go_at_call 34; refine (HC0.out).mono ?_; rintro e w1 ⟨rfl, hb1⟩))
        go_ret3
        exact ⟨_, _, rfl, (RW.empty kT 44 (w := w1.alloc (.cells #[] 44)) w.heap.size w1.heap.size (heap_alloc_new w1 _) hb1.size).alloc (.cells #[] 47), RW.empty kC 47 (w := (w1.alloc (.cells #[] 44)).alloc (.cells #[] 47)) w.heap.size (w1.heap.size + 1) (heap_two w1 _ _) (by have := hb1.size; omega), balloc (balloc hb1 _) _⟩
  by_cases h0 : tcode t l (plainV x && part lim) = 0
  · rw [outY_one h0]
    obtain ⟨ht, hall, hf, hl⟩ := tcode_ok h0
    have hp : plainV x = true := by revert hf; cases plainV x <;> simp
    have hpa : part lim = true := by revert hf; cases part lim <;> simp
    have hlen := trainOk_len' ht
    rw [hp] at HPl
    rw [hpa] at HPa
    have HC0 := Lib.hid (HCc.out true 0 (by rw [hp, hpa] at h0; exact h0))
    have HW : Hid (∀ w1, Below w.heap.size w w1 → Calls Try.prog 35 #[.slice A t.length c, .slice B l.length c', .float .f32 r0, .float .f32 q0, .int .i16 0] w1 (WkQ t l x lim 0 w1)) := Lib.hid (fun w1 hb => week_spec A B c c' t l x r0 hr0 q0 lim hq0 0 (by omega) w1 (Kd.C_below hA hb) (Kd.C_below hB hb) hl (by omega) (sides_all hall))
    clear bad HCc h0 ht hall hf hl hp hpa hA hB hr0 hq0 hlen
    go_enter Try.func15, Try.ntmps15
    go_wp2_with (first | (go_at_call 33; refine (HPl.out _).mono ?_; rintro e w' ⟨rfl, rfl⟩) | (go_at_call 32; refine (HPa.out _).mono ?_; rintro e w' ⟨rfl, rfl⟩) | (go_at_call 34; refine (HC0.out).mono ?_; rintro e w1 ⟨rfl, hb1⟩))
    go_at_call 35
    refine (HW.out _ hb1).mono ?_
    rintro e w2 ⟨u, v, rfl, hu, hv, hb2⟩
    have HU := Lib.hid (hu.lower hb1.size)
    have HV := Lib.hid (hv.lower hb1.size)
    clear hu hv
    go_wp2
    go_ret3
    exact ⟨_, _, rfl, HU.out, HV.out, bstep hb1 hb2⟩
  · rw [outY_bad rfl h0]
    exact bad _ rfl (by have := tcode_cases t l (plainV x && part lim); omega)
theorem weekOf_impl (A B : Option Addr) (c c' : Nat) (t : List (Int × Int × Nat)) (l : List Tth) (x r0 : Nat) (hr0 : FV r0 x) (q0 lim : Nat) (hq0 : FV q0 lim) (w : World)
    (hA : Kd.C kP w A t.length t) (hn : t.length ≤ 1048576) (hB : Kd.C kT w B l.length l) (hm : l.length ≤ 1048576) :
    Calls Try.prog 14 #[.slice A t.length c, .slice B l.length c', .float .f32 r0, .float .f32 q0] w (YrQ (outY t l [x] lim) w) := by
  have b0 : Below w.heap.size w (w.alloc (.cells #[.float .f32 r0] 31)) := balloc (Below.refl _ _) _
  have h1 := FR.one (w := w.alloc (.cells #[.float .f32 r0] 31)) w.heap.size w.heap.size (heap_alloc_new w _) (Nat.le_refl _) hr0
  obtain ⟨A1, c1, hv1, _, hC1⟩ := h1.reads
  have hA1 : A1 = some ⟨w.heap.size, 0, none⟩ := by injection hv1 with a _ _; exact a.symm
  subst hA1
  have HY := Lib.hid (year_impl A B (some ⟨w.heap.size, 0, none⟩) c c' 1 t l [x] q0 lim hq0 _ (Kd.C_below hA b0) hn (Kd.C_below hB b0) hm hC1 (by simp))
  generalize outY t l [x] lim = o at HY
  clear hA hB hr0 hq0 h1 hC1 hv1
  go_enter Try.func14, Try.ntmps14
  go_wp2_with (go_at_call 9; refine (HY.out).mono ?_; rintro e w1 ⟨u, v, rfl, hu, hv, hb1⟩; have HU := Lib.hid (hu.lower b0.size); have HV := Lib.hid (hv.lower b0.size); clear hu hv)
  go_ret3
  exact ⟨_, _, rfl, HU.out, HV.out, bstep b0 hb1⟩
end Go.Proofs.Ytgdaompppclnlaa
