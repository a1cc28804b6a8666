/- The library's pattern-defeating sort at float32 (turned from the worked walk at int). The library's sort at float32: the top (turned from the worked walk at int). What the library's sort makes of numbers from nought up, as a list: plain. The library's compaction at float32 (turned from the worked walk at int). An own row of numbers from nought up, sorted and compacted by the library. -/
import Derived.Test.YtggcajillncamaaSoD1
import Derived.Sort.Walk13
import Derived.Test.YtggcajillncamaaSo0
import Derived.Test.YtggcajillncamaaShelf
import Derived.Sort.WalkA14
import Derived.Sort.AssemblyPlain
import Derived.Test.YtggcajillncamaaFacP
import Derived.Test.YtggcajillncamaaSrtP
import Derived.Sort.WalkB12
import Derived.Sort.EncStr
import Derived.Lib.SliceRun
import Derived.Lib.SlicesCompact
import Derived.Deep.LoopGhost
import Derived.Deep.Draws
import Derived.WalkKit
import Derived.RegionTactic
import Derived.BigRegion
import Derived.KernelRfl
import Derived.Test.YtggcajillncamaaRow
import Derived.Sort.Grow
namespace Go.Proofs.Ytggcajillncamaa.Srt
open Go.RowKit Go.Sort
set_option maxRecDepth 100000
structure Callees13 : Prop where
  ins : ∀ (blk off cap a b : Nat) (d : Array Nat) (w : World), Holds (Value.float .f32) w blk off d → a ≤ b → b ≤ d.size → d.size < 4611686018427387904 →
    Calls Try.prog 76 #[.slice (some ⟨blk, off, none⟩) d.size cap, .int .i64 a, .int .i64 b] w fun e w' => e = .returned (.tuple #[]) ∧ ∃ n, w' = putRow (Value.float .f32) (Sort.ahead w n) blk off (insertionSort ltF d a b)
  brk : ∀ (blk off cap a b : Nat) (d : Array Nat) (w : World), Holds (Value.float .f32) w blk off d → blk < w.heap.size → a ≤ b → b ≤ d.size → d.size < 4611686018427387904 →
    Calls Try.prog 78 #[.slice (some ⟨blk, off, none⟩) d.size cap, .int .i64 a, .int .i64 b] w fun e w' => e = .returned (.tuple #[]) ∧ ∃ n os, w' = grow (putRow (Value.float .f32) (Sort.ahead w n) blk off (breakPatterns d a b)) os
  piv : ∀ (blk off cap a b : Nat) (d : Array Nat) (w : World), Holds (Value.float .f32) w blk off d → blk < w.heap.size → a < b → b ≤ d.size → d.size < 4611686018427387904 →
    Calls Try.prog 79 #[.slice (some ⟨blk, off, none⟩) d.size cap, .int .i64 a, .int .i64 b] w fun e w' => e = .returned (.tuple #[.int .i64 (choosePivot ltF d a b).1, .int .i64 (hintCode (choosePivot ltF d a b).2)]) ∧ ∃ n os, w' = grow (Sort.ahead w n) os
  par : ∀ (blk off cap a b : Nat) (d : Array Nat) (w : World), Holds (Value.float .f32) w blk off d → a < b → b ≤ d.size → d.size < 4611686018427387904 →
    Calls Try.prog 81 #[.slice (some ⟨blk, off, none⟩) d.size cap, .int .i64 a, .int .i64 b] w fun e w' => e = .returned (.bool (partialInsertionSort ltF d a b).2) ∧ ∃ n, w' = putRow (Value.float .f32) (Sort.ahead w n) blk off (partialInsertionSort ltF d a b).1
  peq : ∀ (blk off cap a b pivot : Nat) (d : Array Nat) (w : World), Holds (Value.float .f32) w blk off d → a ≤ pivot → pivot < b → b ≤ d.size → d.size < 4611686018427387904 →
    Calls Try.prog 83 #[.slice (some ⟨blk, off, none⟩) d.size cap, .int .i64 a, .int .i64 b, .int .i64 pivot] w fun e w' => e = .returned (.int .i64 (partitionEqual ltF d a b pivot).1) ∧ ∃ n, w' = putRow (Value.float .f32) (Sort.ahead w n) blk off (partitionEqual ltF d a b pivot).2
  prt : ∀ (blk off cap a b pivot : Nat) (d : Array Nat) (w : World), Holds (Value.float .f32) w blk off d → a ≤ pivot → pivot < b → b ≤ d.size → d.size < 4611686018427387904 →
    Calls Try.prog 84 #[.slice (some ⟨blk, off, none⟩) d.size cap, .int .i64 a, .int .i64 b, .int .i64 pivot] w fun e w' => e = .returned (.tuple #[.int .i64 (partition ltF d a b pivot).1, .bool (partition ltF d a b pivot).2.1]) ∧ ∃ n, w' = putRow (Value.float .f32) (Sort.ahead w n) blk off (partition ltF d a b pivot).2.2
structure Plain13 : Prop where
  swo : SWO ltF
  ins : insertionSort_stmt ltF
  par : partialInsertionSort_stmt ltF
  prt : partition_stmt ltF
  peq : partitionEqual_stmt ltF
  pdq : pdq_stmt ltF
set_option maxHeartbeats 6400000 in
set_option maxRecDepth 1000000 in
theorem wk_pdqsort (C : Callees13) (S : Plain13) : ∀ (N blk off cap a b limit : Nat) (d : Array Nat) (w : World), b - a < N → Holds (Value.float .f32) w blk off d → blk < w.heap.size → a ≤ b → b ≤ d.size → d.size < 4611686018427387904 → limit < 4611686018427387904 → Below ltF a b d →
    Calls Try.prog 69 #[.slice (some ⟨blk, off, none⟩) d.size cap, .int .i64 a, .int .i64 b, .int .i64 limit] w fun e w' => e = .returned (.tuple #[]) ∧ At (Value.float .f32) w blk off (pdq ltF d a b limit true true) w' := by
  intro N
  induction N with
  | zero => intro _ _ _ _ _ _ _ _ h; exact absurd h (Nat.not_lt_zero _)
  | succ N ih =>
    intro blk off cap a b limit d w hN hH hblk hab hb hsz hlimit hBel0
    go_enter Try.func69, Try.ntmps69
    go_wp2
    go_loopg [1, 2, 3, 8, 9] (b - a) (fun k s1 s2 s3 s8 s9 wr => ∃ (a' b' lim : Nat) (wb wp : Bool) (dk : Array Nat), s1 = .int .i64 a' ∧ s2 = .int .i64 b' ∧ s3 = .int .i64 lim ∧ s8 = .bool wb ∧ s9 = .bool wp ∧
      a' ≤ b' ∧ b' ≤ d.size ∧ b' - a' ≤ k ∧ k ≤ b - a ∧ lim ≤ limit ∧ dk.size = d.size ∧ Below ltF a' b' dk ∧ At (Value.float .f32) w blk off dk wr ∧ pdq ltF dk a' b' lim wb wp = pdq ltF d a b limit true true)
    case atStart => exact ⟨a, b, limit, true, true, d, rfl, rfl, rfl, rfl, rfl, hab, hb, Nat.le_refl _, Nat.le_refl _, Nat.le_refl _, rfl, hBel0, At.refl hH, rfl⟩
    case round =>
      obtain ⟨a', b', lim, wb, wp, dk, rfl, rfl, rfl, rfl, rfl, hab', hb', hk, hkN, hlim, hds, hBel, hAt, heq⟩ := hrel
      obtain ⟨hHk, hblk'⟩ := hAt.holds hH hds hblk
      have A : Aside (pdq ltF dk a' b' lim wb wp = pdq ltF d a b limit true true) := heq
      clear heq
      by_cases h12 : b' - a' ≤ 12
      ·
        have h12z : (b' : Int) - (a' : Int) ≤ 12 := by omega
        have hc := C.ins blk off cap a' b' dk wr hHk hab' (by omega) (by omega)
        rw [hds] at hc
        go_wp2_with (go_at_call 76; refine hc.mono ?_; rintro e w1 ⟨rfl, hw1⟩)
        (try simp only [Exit.inBlock, Exit.then]); refine bodyPost_ret (results_none rfl _ _ _) rfl ?_
        refine ⟨rfl, ?_⟩
        rw [← A.out, pdq_small h12]
        exact hAt.step hblk (S.ins S.swo dk a' b' hab' (by omega)).1.1 hw1
      · have h12z : ¬ ((b' : Int) - (a' : Int) ≤ 12) := by omega
        by_cases hl0 : lim = 0
        ·
          subst hl0
          have hc := wk_heapSort blk off d.size cap dk hds a' b' wr hHk hab' (by omega) (by omega)
          go_wp2_with (go_at_call 77; refine hc.mono ?_; rintro e w1 ⟨rfl, hw1⟩)
          (try simp only [Exit.inBlock, Exit.then]); refine bodyPost_ret (results_none rfl _ _ _) rfl ?_
          refine ⟨rfl, ?_⟩
          rw [← A.out, pdq_heap h12 rfl]
          exact hAt.step hblk (heapSort_holds S.swo dk a' b' hab' (by omega)).1.1 hw1
        · have hl0z : ¬ ((lim : Int) = 0) := by omega

          obtain ⟨s1, B1, hc1, s2, B2, hpv, s3, B3⟩ := rd_facts (limit := lim) (wb := wb) (wp := wp) S.swo S.par reverseRange_holds (show a' < b' by omega) (show b' ≤ dk.size by omega) hBel

          go_upto_if 35 with fail
          go_cut [3] from 19 (fun s3 wc => s3 = .int .i64 (rd ltF dk a' b' lim wb wp).lim ∧ At (Value.float .f32) w blk off (rd ltF dk a' b' lim wb wp).d1 wc)
          case first =>
            cases wb
            · have hc := C.brk blk off cap a' b' dk wr hHk hblk' hab' (by omega) (by omega)
              rw [hds] at hc
              go_wp2_with (go_at_call 78; refine hc.mono ?_; rintro e w1 ⟨rfl, hw1⟩)
              go_meet
              case rel =>
                refine ⟨?_, hAt.stepG hblk s1 hw1⟩
                show Value.int .i64 ((lim : Int) - 1) = Value.int .i64 ((lim - 1 : Nat) : Int)
                congr 1
                omega
            · go_wp2_with fail
              go_meet
              case rel => exact ⟨rfl, hAt⟩
          case rest =>
            obtain ⟨rfl, hAt1⟩ := hcut
            obtain ⟨hH1, hblk1⟩ := hAt1.holds hH (s1.trans hds) hblk
            have hc17 : Calls Try.prog 79 #[.slice (some ⟨blk, off, none⟩) d.size cap, .int .i64 a', .int .i64 b'] wc fun e w' => e = .returned (.tuple #[.int .i64 (rd ltF dk a' b' lim wb wp).c.1, .int .i64 (hintCode (rd ltF dk a' b' lim wb wp).c.2)]) ∧ ∃ n os, w' = grow (Sort.ahead wc n) os := by
              have := C.piv blk off cap a' b' (rd ltF dk a' b' lim wb wp).d1 wc hH1 hblk1 (by omega) (by omega) (by omega)
              rw [s1, hds] at this
              exact this
            go_upto_if 50 with (go_at_call 79; refine hc17.mono ?_; rintro e w2 ⟨rfl, hw2⟩)
            have hAt2 : At (Value.float .f32) w blk off (rd ltF dk a' b' lim wb wp).d1 w2 := hAt1.same hH (s1.trans hds) hblk hw2
            obtain ⟨hH2, hblk2⟩ := hAt2.holds hH (s1.trans hds) hblk

            go_cut [11, 12] from 19 (fun s11 s12 wc => s11 = .int .i64 (rd ltF dk a' b' lim wb wp).pivot ∧ s12 = .int .i64 (hintCode (rd ltF dk a' b' lim wb wp).hint) ∧ At (Value.float .f32) w blk off (rd ltF dk a' b' lim wb wp).d2 wc)
            case first =>
              by_cases hh : (rd ltF dk a' b' lim wb wp).c.2 = .decreasing
              · have hcode : hintCode (rd ltF dk a' b' lim wb wp).c.2 = 2 := by rw [hh]; rfl
                obtain ⟨e2, epv, eht⟩ := rd_dec hh
                have hc18 := wk_reverseRange blk off cap (rd ltF dk a' b' lim wb wp).d1 a' b' w2 hH2 hab' (by omega) (by omega)
                rw [s1, hds] at hc18
                go_wp2_with (go_at_call 80; refine hc18.mono ?_; rintro e w3 ⟨rfl, hw3⟩)
                go_meet
                case rel =>
                  refine ⟨?_, by rw [eht]; rfl, by rw [e2]; exact hAt2.step hblk (by rw [← e2, s2, s1]) hw3⟩
                  rw [epv]
                  congr 1
                  omega
              · have hcode : ¬ (hintCode (rd ltF dk a' b' lim wb wp).c.2 = 2) := fun h => hh (hintCode_two h)
                obtain ⟨e2, epv, eht⟩ := rd_not hh
                go_wp2_with fail
                go_meet
                case rel => exact ⟨by rw [epv], by rw [eht], by rw [e2]; exact hAt2⟩
            case rest =>
              obtain ⟨rfl, rfl, hAt3⟩ := hcut
              obtain ⟨hH3, hblk3⟩ := hAt3.holds hH (s2.trans hds) hblk

              go_upto_region 15 with fail
              go_cut [12, 68] from 19 (fun s12 s68 wx => s12 = .int .i64 (hintCode (rd ltF dk a' b' lim wb wp).hint) ∧ s68 = .bool (wb && wp && decide ((rd ltF dk a' b' lim wb wp).hint = .increasing)) ∧ wx = wc)
              case first =>
                cases wb <;> cases wp <;> cases hh3 : (rd ltF dk a' b' lim _ _).hint <;>
                  (have hcode3 := congrArg hintCode hh3
                   simp only [hintCode] at hcode3
                   go_wp2_with fail
                   go_meet
                   exact ⟨by simp [hh3, hintCode], by simp [hh3, hintCode], rfl⟩)
              case rest =>
                obtain ⟨rfl, rfl, rfl⟩ := hcut

                go_upto_if 68 with fail
                go_cut [] from 19 (fun wx => (rd ltF dk a' b' lim wb wp).pi.2 = false ∧ At (Value.float .f32) w blk off (rd ltF dk a' b' lim wb wp).pi.1 wx)
                case first =>
                  cases h68 : (wb && wp && decide ((rd ltF dk a' b' lim wb wp).hint = .increasing))
                  · have epi := rd_pi_no h68
                    go_wp2_with fail
                    go_meet
                    case rel => exact ⟨by rw [epi], by rw [epi]; exact hAt3⟩
                  · have epi := rd_pi_yes h68
                    have hc19 := C.par blk off cap a' b' (rd ltF dk a' b' lim wb wp).d2 wc hH3 (by omega) (by omega) (by omega)
                    rw [s2, hds, ← epi] at hc19
                    go_wp2_with (go_at_call 81; refine hc19.mono ?_; rintro e w4 ⟨rfl, hw4⟩)

                    all_goals first
                      | (have hp2 : (rd ltF dk a' b' lim wb wp).pi.2 = false := by rw [epi]; assumption
                         go_meet
                         exact ⟨hp2, hAt3.step hblk (by rw [s3, s2]) hw4⟩)
                      | (have hp2 : (rd ltF dk a' b' lim wb wp).pi.2 = true := by rw [epi]; assumption
                         (try simp only [Exit.inBlock, Exit.then]); refine bodyPost_ret (results_none rfl _ _ _) rfl ?_
                         refine ⟨rfl, ?_⟩
                         rw [← A.out, pdq_done h12 hl0 hp2]
                         exact hAt3.step hblk (by rw [s3, s2]) hw4)
                case rest =>
                  obtain ⟨hp2, hAt5⟩ := hcut
                  obtain ⟨hH5, hblk5⟩ := hAt5.holds hH (s3.trans hds) hblk

                  have hcw : ∀ t, t < d.size → wc.cell? ⟨blk, off + t, none⟩ = some (.float .f32 (rd ltF dk a' b' lim wb wp).pi.1[t]!) := fun t ht => (hH5 t (by omega)).1
                  have hfw : ∀ t, t < d.size → wc.frozen? ⟨blk, off + t, none⟩ = false := fun t ht => (hH5 t (by omega)).2

                  go_upto_region 17 with fail
                  go_cut [87] from 19 (fun s87 wx => s87 = .bool (decide (a' > 0) && !ltF (rd ltF dk a' b' lim wb wp).pi.1[a' - 1]! (rd ltF dk a' b' lim wb wp).pi.1[(rd ltF dk a' b' lim wb wp).pivot]!) ∧ At (Value.float .f32) w blk off (rd ltF dk a' b' lim wb wp).pi.1 wx)
                  case first =>
                    rcases Nat.eq_zero_or_pos a' with ha0 | ha0
                    · have ha0z : decide ((a' : Int) > 0) = false := decide_eq_false (by omega)
                      go_big_quiet (first | (go_at_call 82; refine Calls.quiet_of_same (wk_cmp_Less _ _ _)))
                      go_wp2_with fail
                      go_meet
                      case rel => exact ⟨by simp [ha0], hAt5.ahead nq⟩
                    · have ha0z : (a' : Int) > 0 := by omega
                      go_big_quiet (first | (go_at_call 82; refine Calls.quiet_of_same (wk_cmp_Less _ _ _)))
                      go_wp2_with fail
                      go_meet
                      case rel => exact ⟨by simp [ha0], hAt5.ahead nq⟩
                  case rest =>
                    obtain ⟨rfl, hAt6⟩ := hcut
                    obtain ⟨hH6, hblk6⟩ := hAt6.holds hH (s3.trans hds) hblk
                    clear hcw hfw
                    cases h87 : (decide (a' > 0) && !ltF (rd ltF dk a' b' lim wb wp).pi.1[a' - 1]! (rd ltF dk a' b' lim wb wp).pi.1[(rd ltF dk a' b' lim wb wp).pivot]!)
                    ·

                      obtain ⟨mid, ap, d4, hx⟩ : ∃ mid ap d4, partition ltF (rd ltF dk a' b' lim wb wp).pi.1 a' b' (rd ltF dk a' b' lim wb wp).pivot = (mid, ap, d4) := ⟨(partition ltF (rd ltF dk a' b' lim wb wp).pi.1 a' b' (rd ltF dk a' b' lim wb wp).pivot).1, (partition ltF (rd ltF dk a' b' lim wb wp).pi.1 a' b' (rd ltF dk a' b' lim wb wp).pivot).2.1, (partition ltF (rd ltF dk a' b' lim wb wp).pi.1 a' b' (rd ltF dk a' b' lim wb wp).pivot).2.2, rfl⟩
                      obtain ⟨r1, r2, r3, r4, r5, r6, r7⟩ := round_part S.swo S.prt hpv.1 hpv.2 (show b' ≤ (rd ltF dk a' b' lim wb wp).pi.1.size by omega) B3 hx
                      have hc22 := C.prt blk off cap a' b' (rd ltF dk a' b' lim wb wp).pivot (rd ltF dk a' b' lim wb wp).pi.1 wc hH6 hpv.1 hpv.2 (by omega) (by omega)
                      rw [s3, hds, hx] at hc22
                      have X : Aside (partition ltF (rd ltF dk a' b' lim wb wp).pi.1 a' b' (rd ltF dk a' b' lim wb wp).pivot = (mid, ap, d4)) := hx
                      clear hx
                      go_upto_if 113 with (go_at_call 84; refine hc22.mono ?_; rintro e w7 ⟨rfl, hw7⟩)
                      have hx := X.out
                      have hAt7 : At (Value.float .f32) w blk off d4 w7 := hAt6.step hblk r3 hw7
                      obtain ⟨hH7, hblk7⟩ := hAt7.holds hH (r3.trans (s3.trans hds)) hblk
                      by_cases h4 : mid - a' < b' - mid
                      · have h4z : (mid : Int) - (a' : Int) < (b' : Int) - (mid : Int) := by omega
                        have hih := ih blk off cap a' mid (rd ltF dk a' b' lim wb wp).lim d4 w7 (by omega) hH7 hblk7 (by omega) (by omega) (by omega) (Nat.lt_of_le_of_lt (Nat.le_trans rd_lim_le hlim) hlimit) r4
                        rw [r3, s3, hds] at hih
                        obtain ⟨pL, sL⟩ := S.pdq S.swo d4 a' mid (rd ltF dk a' b' lim wb wp).lim true true (by omega) (by omega) r4
                        go_wp2_with (go_at_call 69; refine hih.mono ?_; rintro e w8 ⟨rfl, hw8⟩)
                        go_roundg (b' - (mid + 1))
                        case measure => omega
                        case rel =>
                          refine ⟨mid + 1, b', (rd ltF dk a' b' lim wb wp).lim, decide (mid - a' ≥ (b' - a') / 8), ap, pdq ltF d4 a' mid (rd ltF dk a' b' lim wb wp).lim true true, by simp, rfl, rfl, ?_, rfl, by omega, by omega, Nat.le_refl _, by omega, Nat.le_trans rd_lim_le hlim, by rw [pL.1, r3, s3, hds], (r6 _ pL sL).1, hAt7.stepG hblk pL.1 hw8, ?_⟩
                          · exact congrArg Value.bool (eighth (by omega) (by omega))
                          · rw [← A.out, pdq_left h12 hl0 hp2 h87 (by rw [hx]; exact ⟨r1, r2⟩) (by rw [hx]; exact h4), hx]
                      · have h4z : ¬ ((mid : Int) - (a' : Int) < (b' : Int) - (mid : Int)) := by omega
                        have hih := ih blk off cap (mid + 1) b' (rd ltF dk a' b' lim wb wp).lim d4 w7 (by omega) hH7 hblk7 (by omega) (by omega) (by omega) (Nat.lt_of_le_of_lt (Nat.le_trans rd_lim_le hlim) hlimit) r5
                        rw [r3, s3, hds] at hih
                        obtain ⟨pL, sL⟩ := S.pdq S.swo d4 (mid + 1) b' (rd ltF dk a' b' lim wb wp).lim true true (by omega) (by omega) r5
                        go_wp2_with (go_at_call 69; refine hih.mono ?_; rintro e w8 ⟨rfl, hw8⟩)
                        go_roundg (mid - a')
                        case measure => omega
                        case rel =>
                          refine ⟨a', mid, (rd ltF dk a' b' lim wb wp).lim, decide (b' - mid ≥ (b' - a') / 8), ap, pdq ltF d4 (mid + 1) b' (rd ltF dk a' b' lim wb wp).lim true true, rfl, rfl, rfl, ?_, rfl, by omega, by omega, Nat.le_refl _, by omega, Nat.le_trans rd_lim_le hlim, by rw [pL.1, r3, s3, hds], (r7 _ pL sL).1, hAt7.stepG hblk pL.1 hw8, ?_⟩
                          · exact congrArg Value.bool (eighth (by omega) (by omega))
                          · rw [← A.out, pdq_right h12 hl0 hp2 h87 (by rw [hx]; exact ⟨r1, r2⟩) (by rw [hx]; exact h4), hx]
                    ·
                      have h87' := h87
                      simp only [Bool.and_eq_true, decide_eq_true_eq, Bool.not_eq_true'] at h87'
                      obtain ⟨mid, d4, hx⟩ : ∃ mid d4, partitionEqual ltF (rd ltF dk a' b' lim wb wp).pi.1 a' b' (rd ltF dk a' b' lim wb wp).pivot = (mid, d4) := ⟨(partitionEqual ltF (rd ltF dk a' b' lim wb wp).pi.1 a' b' (rd ltF dk a' b' lim wb wp).pivot).1, (partitionEqual ltF (rd ltF dk a' b' lim wb wp).pi.1 a' b' (rd ltF dk a' b' lim wb wp).pivot).2, rfl⟩
                      obtain ⟨r1, r2, r3, r4, _⟩ := round_eq S.swo S.peq h87'.1 hpv.1 hpv.2 (show b' ≤ (rd ltF dk a' b' lim wb wp).pi.1.size by omega) B3 h87'.2 hx
                      have hc21 := C.peq blk off cap a' b' (rd ltF dk a' b' lim wb wp).pivot (rd ltF dk a' b' lim wb wp).pi.1 wc hH6 hpv.1 hpv.2 (by omega) (by omega)
                      rw [s3, hds, hx] at hc21
                      have X : Aside (partitionEqual ltF (rd ltF dk a' b' lim wb wp).pi.1 a' b' (rd ltF dk a' b' lim wb wp).pivot = (mid, d4)) := hx
                      clear hx
                      go_wp2_with (go_at_call 83; refine hc21.mono ?_; rintro e w7 ⟨rfl, hw7⟩)
                      go_roundg (b' - mid)
                      case measure => omega
                      case rel =>
                        have hx := X.out
                        exact ⟨mid, b', (rd ltF dk a' b' lim wb wp).lim, wb, wp, d4, rfl, rfl, rfl, rfl, rfl, r2, hb', Nat.le_refl _, by omega, Nat.le_trans rd_lim_le hlim, by rw [r3, s3, hds], r4, hAt6.step hblk r3 hw7, by rw [← A.out, pdq_eq h12 hl0 hp2 h87 (by rw [hx]; exact ⟨r1, r2⟩), hx]⟩
end Go.Proofs.Ytggcajillncamaa.Srt
namespace Go.Proofs.Ytggcajillncamaa.Srt
open Go.RowKit Go.Sort
set_option maxRecDepth 100000
def pdqWalk_int : Prop := ∀ (blk off cap a b limit : Nat) (d : Array Nat) (w : World), Holds (Value.float .f32) w blk off d → blk < w.heap.size → a ≤ b → b ≤ d.size → d.size < 4611686018427387904 → limit < 4611686018427387904 → Below ltF a b d →
  Calls Try.prog 69 #[.slice (some ⟨blk, off, none⟩) d.size cap, .int .i64 a, .int .i64 b, .int .i64 limit] w fun e w' =>
    e = .returned (.tuple #[]) ∧ ∃ n os, w' = grow (putRow (Value.float .f32) (Sort.ahead w n) blk off (Sort.pdq ltF d a b limit true true)) os
set_option maxRecDepth 100000 in
theorem wk_Sort (hpdq : pdqWalk_int) (blk off cap : Nat) (d : Array Nat) (w : World) (hH : Holds (Value.float .f32) w blk off d) (hblk : blk < w.heap.size) (hsz : d.size < 4611686018427387904) :
    Calls Try.prog 49 #[.slice (some ⟨blk, off, none⟩) d.size cap] w fun e w' => e = .returned (.tuple #[]) ∧ ∃ n os, w' = grow (putRow (Value.float .f32) (Sort.ahead w n) blk off (Sort.sort ltF d)) os := by
  have HH : Hid (Holds (Value.float .f32) w blk off d) := hH
  clear hH
  have hLen : ∀ w, Calls Try.prog 70 #[.int .u64 (d.size : Int)] w fun e w' => e = .returned (.int .i64 (bitsLen d.size : Nat)) ∧ w' = w := fun w => by
    have h := Try.bits_Len (d.size : Int) w (by omega) (by omega)
    rwa [Int.toNat_natCast, bitLen_eq _ (by omega)] at h
  have hk : bitsLen d.size ≤ 62 := (bitsLen_le_iff d.size 62).2 (by omega)
  go_enter Try.func49, Try.ntmps49
  go_wp2_with (first
    | (go_at_call 70; refine (hLen _).mono ?_; rintro e w' ⟨rfl, rfl⟩)
    | (go_at_call 69; refine (hpdq blk off cap 0 d.size (bitsLen d.size) d _ (by exact HH.out) (by exact hblk) (Nat.zero_le _) (Nat.le_refl _) hsz (by omega) (Or.inl rfl)).mono ?_; rintro e w' ⟨rfl, n, os, rfl⟩))
  go_end0
  exact ⟨rfl, n, os, rfl⟩
theorem callees13 : Callees13 where
  ins := wk_insertionSort
  brk := wk_breakPatterns
  piv := wk_choosePivot
  par := wk_partialInsertionSort
  peq := wk_partitionEqualOrdered
  prt := wk_partitionOrdered
theorem plain13 : Plain13 where
  swo := swo_ltF
  ins := insertionSort_holds
  par := partialInsertionSort_holds
  prt := partition_holds _
  peq := partitionEqual_holds _
  pdq := pdq_sorts _
theorem pdqWalkF : pdqWalk_int := fun blk off cap a b limit d w hH hb hab hbd hsz hl hB =>
  wk_pdqsort callees13 plain13 (b - a + 1) blk off cap a b limit d w (by omega) hH hb hab hbd hsz hl hB
theorem sort_top (blk off cap : Nat) (d : Array Nat) (w : World) (hH : Holds (Value.float .f32) w blk off d) (hblk : blk < w.heap.size) (hsz : d.size < 4611686018427387904) :
    Calls Try.prog 49 #[.slice (some ⟨blk, off, none⟩) d.size cap] w fun e w' => e = .returned (.tuple #[]) ∧ ∃ n os, w' = grow (putRow (Value.float .f32) (Sort.ahead w n) blk off (Sort.sort ltF d)) os :=
  wk_Sort pdqWalkF blk off cap d w hH hblk hsz
end Go.Proofs.Ytggcajillncamaa.Srt
namespace Go.Proofs.Ytggcajillncamaa
open Ieee
set_option maxRecDepth 100000
def srtL (l : List Nat) : List Nat := (Go.Sort.sort ltF l.toArray).toList
theorem srtL_spec {l : List Nat} (hl : allNn l) : (srtL l).Perm l ∧ (srtL l).Pairwise (· ≤ ·) := by
  obtain ⟨⟨hz, _, hp⟩, hs⟩ := Go.Sort.sort_sorts ltF swo_ltF l.toArray
  have e1 : l.toArray.extract 0 l.toArray.size = l.toArray := by simp
  have e2 : (Go.Sort.sort ltF l.toArray).extract 0 l.toArray.size = Go.Sort.sort ltF l.toArray := by rw [← hz]; simp
  rw [e1, e2] at hp
  have hperm : (srtL l).Perm l := by simpa [srtL] using hp
  refine ⟨hperm, ?_⟩
  have hn : allNn (srtL l) := fun x hx => hl x (hperm.mem_iff.1 hx)
  have hlen : (srtL l).length = l.toArray.size := by unfold srtL; simpa using hz
  rw [List.pairwise_iff_getElem]
  intro i j hi hj hij
  have h := hs i j (Nat.zero_le _) hij (by omega)
  have g : ∀ k (hk : k < (srtL l).length), (Go.Sort.sort ltF l.toArray)[k]! = (srtL l)[k] := fun k hk => by
    have hk' : k < (Go.Sort.sort ltF l.toArray).size := by rw [hz]; omega
    rw [getElem!_pos _ k hk']
    simp [srtL]
  rw [g i hi, g j hj, ltF_nn (hn _ (List.getElem_mem hj)) (hn _ (List.getElem_mem hi))] at h
  simpa using h
theorem srtL_cpt {l : List Nat} (hl : allNn l) : cpt (srtL l) = insA l [] := cpt_insA hl (srtL_spec hl).1 (srtL_spec hl).2
end Go.Proofs.Ytggcajillncamaa
namespace Go.Proofs.Ytggcajillncamaa.Srt
open Go.RowKit Go.Sort Go.Lib
theorem zeroF : ∀ w, (zeroValue 26).run Try.prog w = .ok (Value.float .f32 0) w := fun w => by kernel_rfl
theorem store_worldF {w wr : World} {n blk off : Nat} {dk : Array Nat} {i : Nat} (hi : i < dk.size) (hwr : wr = putRow (Value.float .f32) (Sort.ahead w n) blk off dk) (x : Nat) :
    (wr.setCell ⟨blk, off + i, none⟩ ((Value.float .f32) x)).drew = putRow (Value.float .f32) (Sort.ahead w (n + 1)) blk off (dk.setIfInBounds i x) := by
  subst hwr
  rw [putRow_set (Value.float .f32) _ blk off dk i x hi, ← ahead_drew]
  rfl
set_option maxHeartbeats 4000000 in
set_option maxRecDepth 1000000 in
theorem wk_Compact (blk off cap : Nat) (d : Array Nat) (w : World) (hH : Holds (Value.float .f32) w blk off d) (hsz : d.size ≤ 9223372036854775807) (hcap : d.size ≤ cap) (hnn : ∀ j : Nat, nn d[j]!) :
    Calls Try.prog 50 #[.slice (some ⟨blk, off, none⟩) d.size cap] w fun e w' => e = .returned (.slice (some ⟨blk, off, none⟩) (compactUpTo d d.size).length cap) ∧ ∃ q, w' = putRow (Value.float .f32) (Sort.ahead w q) blk off (compactUpTo d d.size ++ List.replicate (d.size - (compactUpTo d d.size).length) 0).toArray := by
  have same : ∀ q, (∀ j, j < d.size → keeps d j = true) → (compactUpTo d d.size).length = d.size ∧ w.drewN q = putRow (Value.float .f32) (Sort.ahead w q) blk off (compactUpTo d d.size ++ List.replicate (d.size - (compactUpTo d d.size).length) 0).toArray := by
    intro q hall
    have e : compactUpTo d d.size = d.toList := by rw [compactUpTo_all d _ hall, range_map_get]
    rw [e]
    refine ⟨by simp, ?_⟩
    simp only [Array.length_toList, Nat.sub_self, List.replicate_zero, List.append_nil, Array.toArray_toList]
    exact (putRow_self (Value.float .f32) (Sort.ahead w q) blk off d (holds_ahead (Value.float .f32) w q blk off d hH)).symm
  have HS : Aside (∀ q, (∀ j, j < d.size → keeps d j = true) → (compactUpTo d d.size).length = d.size ∧ w.drewN q = putRow (Value.float .f32) (Sort.ahead w q) blk off (compactUpTo d d.size ++ List.replicate (d.size - (compactUpTo d d.size).length) 0).toArray) := same
  clear same
  have N : Aside (∀ j : Nat, nn d[j]!) := hnn
  clear hnn
  by_cases h2 : d.size < 2
  · have HH : Aside (Holds (Value.float .f32) w blk off d) := hH
    clear hH
    go_enter Try.func50, Try.ntmps50
    go_wp2
    go_ret
    obtain ⟨e1, e2⟩ := HS.out 0 (fun j hj => keeps_lt_one d j (by omega))
    exact ⟨by rw [e1]; rfl, 0, e2⟩
  · go_enter Try.func50, Try.ntmps50
    go_wp2
    go_loopg [3] d.size (fun g s3 wr => ∃ k q : Nat, 1 ≤ k ∧ k ≤ d.size ∧ d.size - k ≤ g ∧ s3 = .int .i64 k ∧ wr = w.drewN q ∧ ∀ j, j < k → keeps d j = true)
    case atStart => exact ⟨1, 0, Nat.le_refl _, by omega, by omega, rfl, rfl, keeps_lt_one d⟩
    case round =>
      obtain ⟨k, q, hk1, hk, hg, rfl, rfl, hall⟩ := hrel
      by_cases hlt : k < d.size
      · obtain ⟨c1, f1⟩ := hH k hlt
        obtain ⟨c0, f0⟩ := hH (k - 1) (by omega)
        have A : Aside (∀ j, j < k → keeps d j = true) := hall
        have HH : Aside (Holds (Value.float .f32) w blk off d) := hH
        clear hall hH
        generalize hx : d[k]! = x at c1
        generalize hy : d[k - 1]! = y at c0
        have B : Aside (d[k]! = x ∧ d[k - 1]! = y) := ⟨hx, hy⟩
        clear hx hy
        have hxn : nn x := by rw [← B.out.1]; exact N.out k
        have hyn : nn y := by rw [← B.out.2]; exact N.out (k - 1)
        have hfe := nn_feq hxn hyn
        clear hxn hyn
        by_cases hdup : x = y
        · subst hdup
          rw [decide_eq_true rfl] at hfe
          go_wp2_with fail
          go_region
          go_wp2
          clear c0 c1 f0 f1
          go_loopg [3, 5] d.size (fun g s3 s5 wr => ∃ (kk k2 q2 : Nat) (dk : Array Nat), s3 = .int .i64 kk ∧ s5 = .int .i64 k2 ∧ 1 ≤ k2 ∧ k + k2 ≤ d.size ∧ d.size - (k + k2) ≤ g ∧ wr = putRow (Value.float .f32) (Sort.ahead w q2) blk off dk ∧ CompInv d (k + k2) kk dk)
          case atStart => exact ⟨k, 1, q + 1, d, rfl, rfl, Nat.le_refl _, by omega, by omega, (putRow_self (Value.float .f32) (Sort.ahead w (q + 1)) blk off d (holds_ahead (Value.float .f32) w (q + 1) blk off d HH.out)).symm, CompInv.start A.out (keeps_neg (by omega) (by rw [B.out.1, B.out.2]))⟩
          case round =>
            obtain ⟨kk, k2, q2, dk, rfl, rfl, h1, hle, hg2, hwr, hI⟩ := hrel
            have hkk := hI.lt
            have hds := hI.size
            have hHk : Holds (Value.float .f32) wr blk off dk := by rw [hwr]; exact holds_putRow (Value.float .f32) _ blk off d dk (holds_ahead (Value.float .f32) w q2 blk off d HH.out) hds
            have W2 : Aside (wr = putRow (Value.float .f32) (Sort.ahead w q2) blk off dk) := hwr
            have I2 : Aside (CompInv d (k + k2) kk dk) := hI
            clear hwr
            by_cases hlt2 : k + k2 < d.size
            · obtain ⟨cm, _⟩ := hHk (k + k2) (by omega)
              obtain ⟨cp, _⟩ := hHk (k + k2 - 1) (by omega)
              obtain ⟨ck, fk⟩ := hHk kk (by omega)
              rw [hI.high (k + k2) (by omega), show off + (k + k2) = off + k + k2 by omega] at cm
              rw [hI.high (k + k2 - 1) (by omega), show off + (k + k2 - 1) = off + k + (k2 - 1) by omega] at cp
              clear hHk hI
              generalize hu : d[k + k2]! = u at cm
              generalize hv : d[k + k2 - 1]! = v at cp
              generalize dk[kk]! = old at ck
              have C : Aside (d[k + k2]! = u ∧ d[k + k2 - 1]! = v) := ⟨hu, hv⟩
              clear hu hv
              have hun : nn u := by rw [← C.out.1]; exact N.out _
              have hvn : nn v := by rw [← C.out.2]; exact N.out _
              have hfu := nn_feq hun hvn
              clear hun hvn
              by_cases huv : u = v
              · subst huv
                rw [decide_eq_true rfl] at hfu
                go_wp2_with fail
                go_region
                go_wp2
                go_roundg (d.size - (k + (k2 + 1)))
                case measure => omega
                case rel => exact ⟨kk, k2 + 1, q2 + 1, dk, rfl, by go_num, by omega, by omega, Nat.le_refl _, by rw [W2.out]; rfl, I2.out.skip (keeps_neg (by omega) (by rw [C.out.1, C.out.2]))⟩
              · rw [decide_eq_false huv] at hfu
                go_wp2_with fail
                go_region
                go_wp2
                go_roundg (d.size - (k + (k2 + 1)))
                case measure => omega
                case rel => exact ⟨kk + 1, k2 + 1, q2 + 1, dk.setIfInBounds kk u, by go_num, by go_num, by omega, by omega, Nat.le_refl _, store_worldF (by omega) W2.out u, by have := I2.out.keep hlt2 (keeps_pos (by rw [C.out.1, C.out.2]; exact huv)); rwa [C.out.1] at this⟩
            · have hend : k + k2 = d.size := by omega
              have hcl : ∀ ty, (Builtin.clear_ #[28] ty #[.slice (some ⟨blk, off + kk, none⟩) (d.size - kk) (cap - kk)]).run Try.prog wr = .ok (.tuple #[]) (wr.setCells blk (off + kk) (List.replicate (d.size - kk) (.float .f32 0))) :=
                fun ty => Lib.run_clear_slice wr _ _ ty _ Try.underlying28 (zeroF) rfl rfl blk (off + kk) _ _ (by omega) (fun j hj => by rw [show off + kk + j = off + (kk + j) by omega, (hHk (kk + j) (by omega)).1]; rfl) (fun j hj => by rw [show off + kk + j = off + (kk + j) by omega]; exact (hHk (kk + j) (by omega)).2)
              clear hHk hI
              go_wp2
              go_ret
              have hI := I2.out
              rw [hend] at hI
              refine ⟨by rw [hI.len]; rfl, q2, ?_⟩
              rw [hI.len, ← hI.done 0, ← putRow_setCells (Value.float .f32) _ blk off _ dk kk (by simp; omega), ← W2.out, List.map_replicate]
        · rw [decide_eq_false hdup] at hfe
          go_wp2_with fail
          go_region
          go_wp2
          go_roundg (d.size - (k + 1))
          case measure => omega
          case rel =>
            refine ⟨k + 1, q + 1, by omega, by omega, Nat.le_refl _, by go_num, rfl, fun j hj => ?_⟩
            by_cases e : j = k
            · subst e
              exact keeps_pos (by rw [B.out.1, B.out.2]; exact hdup)
            · exact A.out j (by omega)
      · have : k = d.size := by omega
        subst this
        have HH : Aside (Holds (Value.float .f32) w blk off d) := hH
        clear hH
        go_wp2
        go_ret
        obtain ⟨e1, e2⟩ := HS.out q hall
        exact ⟨by rw [e1]; rfl, q, e2⟩
end Go.Proofs.Ytggcajillncamaa.Srt
namespace Go.Proofs.Ytggcajillncamaa
open Go.RowKit Ieee
open Go.Proofs.YtggcajillncamaaW.PrintWords
set_option maxRecDepth 100000
attribute [local irreducible] wpRel
theorem FV_nnS {r x : Nat} (h : FV r x) (hx : nn x) : r = x := by
  cases hn : isn r
  · rw [← h.1, cn_of_not hn]
  · have := h.1
    rw [cn_of_isn hn] at this
    subst this
    have h2 := nn_isn hx
    rw [isn_nanW] at h2
    cases h2
/-- An own row of numbers, its block laid open. -/
theorem row_open {w : World} {base : Nat} {v : Value} {xs : List Nat} (h : RW kf 26 w base v xs) (hn : allNn xs) (hp : 0 < xs.length) :
    ∃ g cap cur, v = .slice (some ⟨g, 0, none⟩) xs.length cap ∧ base ≤ g ∧ g < w.heap.size ∧ w.heap[g]? = some (.cells cur 26 (0, 0)) ∧ xs.length ≤ cap ∧ cap ≤ maxLen ∧ cur.size = cap ∧ Go.Sort.Holds (Value.float .f32) w g 0 xs.toArray := by
  have hR := h
  obtain ⟨_, inner, ⟨_, ho⟩, _⟩ := h
  rcases ho with ⟨_, hz⟩ | ⟨g, cap, cur, hv, hb, hc, h1, h2, h3, _⟩
  · exact absurd hz (by omega)
  · subst hv
    have hg : g < w.heap.size := (Array.getElem?_eq_some_iff.1 hc).1
    refine ⟨g, cap, cur, rfl, hb, hg, hc, h1, h2, (by rw [h3]; show cap * 1 = cap; omega), fun j hj => ?_⟩
    have hj' : j < xs.length := by simpa using hj
    obtain ⟨ce, hcl, hM, hcc, hfr⟩ := Kd.R_elem hR 0 (j : Int) (by omega) (by omega)
    obtain ⟨r2, rfl, hr⟩ := kf_openM hM
    have hx : xs.getD j 0 = xs[j] := by rw [List.getD_eq_getElem?_getD, List.getElem?_eq_getElem hj']; rfl
    have e0 : (j : Int).toNat * kf.sz + 0 = 0 + j := by show j * 1 + 0 = 0 + j; omega
    have x0 := hcc 0 _ rfl
    have f0 := hfr 0
    rw [e0] at x0 f0
    rw [Int.toNat_natCast, hx] at hr
    have hrx := FV_nnS hr (hn _ (List.getElem_mem hj'))
    refine ⟨?_, f0⟩
    rw [x0, hrx, getElem!_pos xs.toArray j hj]
    simp
/-- .. and shut again. -/
theorem row_shut {w : World} {base g cap : Nat} {cur : Array Value} {ys : List Nat} (hb : base ≤ g) (hc : w.heap[g]? = some (.cells cur 26 (0, 0))) (h1 : ys.length ≤ cap) (h2 : cap ≤ maxLen) (h3 : cur.size = cap) (hn : allNn ys)
    (hcell : ∀ j, j < ys.length → cur[j]? = some (.float .f32 (ys.getD j 0))) : RW kf 26 w base (.slice (some ⟨g, 0, none⟩) ys.length cap) ys := by
  refine ⟨fun _ _ => trivial, cur.toList.take (ys.length * 1), ⟨?_, .inr ⟨g, cap, cur, rfl, hb, hc, h1, h2, ?_, rfl⟩⟩, ?_⟩
  · show (cur.toList.take (ys.length * 1)).length = ys.length * 1
    rw [List.length_take]
    simp; omega
  · show cur.size = cap * 1
    omega
  · refine ⟨?_, fun j p hj => ?_⟩
    · show (cur.toList.take (ys.length * 1)).length = ys.length * 1
      rw [List.length_take]
      simp; omega
    · have hj' : j < ys.length := (List.getElem?_eq_some_iff.1 hj).1
      have hp : ys.getD j 0 = p := by rw [List.getD_eq_getElem?_getD, hj]; rfl
      have hcj := hcell j hj'
      rw [hp] at hcj
      have hpn : nn p := by rw [← hp, List.getD_eq_getElem?_getD, List.getElem?_eq_getElem hj']; exact hn _ (List.getElem_mem hj')
      refine ⟨p, ?_, nn_FV hpn⟩
      show ((cur.toList.take (ys.length * 1)).drop (j * 1)).take 1 = _
      have hjs : j < cur.size := by omega
      rw [Nat.mul_one, Nat.mul_one]
      have e : (cur.toList.take ys.length)[j]? = some (.float .f32 p) := by rw [List.getElem?_take_of_lt hj', Array.getElem?_toList]; exact hcj
      rw [List.take_one, List.head?_drop, e]
      rfl
theorem heap_put {w : World} {g n : Nat} {os : Array Obj} {cur : Array Value} {e : TypeId} {fr : Nat × Nat} (d : Array Nat) (hb : w.heap[g]? = some (.cells cur e fr)) :
    (Go.Sort.grow (Go.Sort.putRow (Value.float .f32) (Go.Sort.ahead w n) g 0 d) os).heap[g]? = some (.cells (Go.Sort.putCells (Value.float .f32) 0 d cur) e fr) := by
  have hg : g < w.heap.size := (Array.getElem?_eq_some_iff.1 hb).1
  rw [Go.Sort.heap_grow_old _ _ (by simpa using hg)]
  simp [Go.Sort.putRow, Go.Sort.mapBlock, Go.Sort.ahead, Array.getElem?_modify, hb, Go.Sort.onCells]
theorem grown_put {w : World} {g n : Nat} {os : Array Obj} (d : Array Nat) : w.grownBy (Go.Sort.grow (Go.Sort.putRow (Value.float .f32) (Go.Sort.ahead w n) g 0 d) os) (some g) := by
  refine ⟨rfl, rfl, rfl, by simp, fun k hk hne => ?_⟩
  rw [Go.Sort.heap_grow_old _ _ (by simpa using hk)]
  have : g ≠ k := fun e => hne (by rw [e])
  simp [Go.Sort.putRow, Go.Sort.mapBlock, Go.Sort.ahead, Array.getElem?_modify, this]
theorem put_cell {cur : Array Value} {d : Array Nat} {j : Nat} (hj : j < d.size) (hs : d.size ≤ cur.size) : (Go.Sort.putCells (Value.float .f32) 0 d cur)[j]? = some (.float .f32 d[j]!) := by
  simp [Go.Sort.putCells, hj, show j < cur.size by omega]
theorem put_size (cur : Array Value) (d : Array Nat) : (Go.Sort.putCells (Value.float .f32) 0 d cur).size = cur.size := by simp [Go.Sort.putCells]
theorem srtL_len {l : List Nat} (hl : allNn l) : (srtL l).length = l.length := (srtL_spec hl).1.length_eq
theorem srtL_nn {l : List Nat} (hl : allNn l) : allNn (srtL l) := fun x hx => hl x ((srtL_spec hl).1.mem_iff.1 hx)
theorem sort_any {w : World} {base : Nat} {v : Value} {xs : List Nat} (h : RW kf 26 w base v xs) (hn : allNn xs) (hp : 0 < xs.length) (hm : xs.length ≤ 1048576) :
    Calls Try.prog 49 #[v] w fun e w' => e = .returned (.tuple #[]) ∧ RW kf 26 w' base v (srtL xs) ∧ w.grownBy w' v.ownBlock := by
  obtain ⟨g, cap, cur, rfl, hb, hg, hc, h1, h2, h3, hH⟩ := row_open h hn hp
  have := Srt.sort_top g 0 cap xs.toArray w hH hg (by simp; omega)
  rw [List.size_toArray] at this
  refine this.mono ?_
  rintro e w' ⟨rfl, n, os, rfl⟩
  have hlen := srtL_len hn
  have hsz : (Go.Sort.sort ltF xs.toArray).size = xs.length := by rw [← hlen]; simp [srtL]
  refine ⟨rfl, ?_, grown_put _⟩
  have hr := row_shut (w := Go.Sort.grow (Go.Sort.putRow (Value.float .f32) (Go.Sort.ahead w n) g 0 (Go.Sort.sort ltF xs.toArray)) os) hb (heap_put _ hc) (ys := srtL xs) (by omega) h2 (by rw [put_size]; exact h3) (srtL_nn hn) (fun j hj => by
    rw [put_cell (by omega) (by omega), getElem!_pos _ j (by omega), List.getD_eq_getElem?_getD, List.getElem?_eq_getElem hj]
    simp [srtL])
  rw [hlen] at hr
  exact hr
theorem get_mid {d : Array Nat} {pre l : List Nat} {a : Nat} (h : d.toList = pre ++ a :: l) : d[pre.length]! = a := by
  obtain ⟨xs⟩ := d
  have h' : xs = pre ++ a :: l := h
  subst h'
  rw [getElem!_pos _ _ (by simp)]
  simp
theorem cptF_eq : ∀ (l : List Nat) (a : Nat), nn a → allNn l → ∀ (pre : List Nat) (d : Array Nat), d.toList = pre ++ a :: l →
    ((List.range' (pre.length + 1) l.length).filter (Go.Lib.keeps d)).map (d[·]!) = cpt.cptF a l
  | [], a, _, _, pre, d, _ => by simp [cpt.cptF]
  | b :: l, a, ha, hl, pre, d, hd => by
    have hb := hl b List.mem_cons_self
    have ih := cptF_eq l b hb (fun x hx => hl x (List.mem_cons_of_mem _ hx)) (pre ++ [a]) d (by rw [hd]; simp)
    have e0 : d[pre.length]! = a := get_mid hd
    have e1 : d[pre.length + 1]! = b := by
      have := get_mid (pre := pre ++ [a]) (l := l) (a := b) (d := d) (by rw [hd]; simp)
      rwa [List.length_append] at this
    rw [List.length_cons, List.range'_succ, List.filter_cons]
    have hk : Go.Lib.keeps d (pre.length + 1) = !feq a b := by
      unfold Go.Lib.keeps
      rw [Nat.add_sub_cancel, e1, e0, nn_feq ha hb]
      by_cases e : a = b
      · subst e; simp
      · rw [decide_eq_true (.inr (fun h => e h.symm)), decide_eq_false e]; rfl
    have e2 : (pre ++ [a]).length = pre.length + 1 := by simp
    rw [e2] at ih
    rw [hk]
    unfold cpt.cptF
    cases hf : feq a b
    · simp only [Bool.not_false, if_true, Bool.false_eq_true, if_false, List.map_cons, e1]
      rw [← ih]
    · simp only [Bool.not_true, Bool.false_eq_true, if_false, if_true]
      rw [ih]
      have hab : a = b := by rw [nn_feq ha hb] at hf; simpa using hf
      rw [hab]
theorem compact_cpt {l : List Nat} (hl : allNn l) : Go.Lib.compactUpTo l.toArray l.length = cpt l := by
  cases l with
  | nil => rfl
  | cons a l =>
    unfold Go.Lib.compactUpTo cpt
    rw [List.range_eq_range', List.length_cons, List.range'_succ, List.filter_cons, Go.Lib.keeps_lt_one _ 0 (by decide)]
    simp only [if_true, List.map_cons]
    congr 1
    exact cptF_eq l a (hl a List.mem_cons_self) (fun x hx => hl x (List.mem_cons_of_mem _ hx)) [] _ rfl
theorem cpt_len : ∀ l : List Nat, (cpt l).length ≤ l.length
  | [] => Nat.le_refl _
  | a :: l => by
    have key : ∀ (l : List Nat) (a : Nat), (cpt.cptF a l).length ≤ l.length := by
      intro l
      induction l with
      | nil => intro a; simp [cpt.cptF]
      | cons b l ih =>
        intro a
        unfold cpt.cptF
        split
        · have := ih a; simp; omega
        · have := ih b; simp; omega
    have := key l a
    simp [cpt]; omega
theorem cpt_mem : ∀ (l : List Nat) (x : Nat), x ∈ cpt l → x ∈ l := by
  have key : ∀ (l : List Nat) (a x : Nat), x ∈ cpt.cptF a l → x ∈ l := by
    intro l
    induction l with
    | nil => intro a x h; simp [cpt.cptF] at h
    | cons b l ih =>
      intro a x h
      unfold cpt.cptF at h
      split at h
      · exact List.mem_cons_of_mem _ (ih a x h)
      · rcases List.mem_cons.1 h with e | h
        · subst e; exact List.mem_cons_self
        · exact List.mem_cons_of_mem _ (ih b x h)
  intro l x h
  cases l with
  | nil => simp [cpt] at h
  | cons a l =>
    rw [cpt] at h
    rcases List.mem_cons.1 h with e | h
    · subst e; exact List.mem_cons_self
    · exact List.mem_cons_of_mem _ (key l a x h)
theorem cpt_nn {l : List Nat} (hl : allNn l) : allNn (cpt l) := fun x hx => hl x (cpt_mem l x hx)
theorem compact_any {w : World} {base : Nat} {v : Value} {xs : List Nat} (h : RW kf 26 w base v xs) (hn : allNn xs) (hp : 0 < xs.length) (hm : xs.length ≤ 1048576) :
    Calls Try.prog 50 #[v] w fun e w' => ∃ v', e = .returned v' ∧ RW kf 26 w' base v' (cpt xs) ∧ v'.ownBlock = v.ownBlock ∧ w.grownBy w' v.ownBlock := by
  obtain ⟨g, cap, cur, rfl, hb, hg, hc, h1, h2, h3, hH⟩ := row_open h hn hp
  have := Srt.wk_Compact g 0 cap xs.toArray w hH (by simp; omega) (by simpa using h1) (fun j => by
    by_cases hj : j < xs.length
    · rw [getElem!_pos _ j (by simpa using hj)]
      simp only [List.getElem_toArray]
      exact hn _ (List.getElem_mem hj)
    · rw [getElem!_neg _ j (by simpa using hj)]
      show (0 : Nat) ≤ _
      decide)
  rw [List.size_toArray, compact_cpt hn] at this
  refine this.mono ?_
  rintro e w' ⟨rfl, n, rfl⟩
  have hl := cpt_len xs
  have hgr := Go.Sort.grow_empty (Go.Sort.putRow (Value.float .f32) (Go.Sort.ahead w n) g 0 (cpt xs ++ List.replicate (xs.length - (cpt xs).length) 0).toArray)
  rw [← hgr]
  refine ⟨_, rfl, ?_, rfl, grown_put _⟩
  exact row_shut hb (heap_put _ hc) (by omega) h2 (by rw [put_size]; exact h3) (cpt_nn hn) (fun j hj => by
    rw [put_cell (by simp; omega) (by simp; omega), getElem!_pos _ j (by simp; omega), List.getD_eq_getElem?_getD, List.getElem?_eq_getElem hj]
    simp only [List.getElem_toArray]
    rw [List.getElem_append_left hj]; rfl)
end Go.Proofs.Ytggcajillncamaa
