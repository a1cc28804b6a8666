/- A wheel added: the program's function. A wheel added: the model's function. A wheel added: the model's function. A wheel added: the model's function. -/
import Derived.Test.YtggcajillncamaaIns
import Derived.Test.YtggcajillncamaaFb
import Derived.Deep.RegionHeld3
import Derived.StillTactics
namespace Go.Proofs.Ytggcajillncamaa
open Go.RowKit Ieee
open Go.Proofs.YtggcajillncamaaW.PrintWords
set_option maxRecDepth 100000
attribute [local irreducible] wpRel
def ax : Option (Int × Nat) → Int
  | none => 0
  | some s => s.1
def av : Option (Int × Nat) → Nat
  | none => 0
  | some s => s.2
theorem aw_pos {l : List Int} {t : Nat} : ∀ {k : Nat} {s : Int × Nat}, aw l t k = some s → 6 ≤ s.1 ∧ s.1 ≤ 5 + k
  | k + 1, s, h => by
    unfold aw at h
    split at h
    · have := aw_pos h; omega
    · split at h
      · injection h with h; subst h; dsimp only; omega
      · rename_i s' h'
        have := aw_pos h'
        split at h
        · injection h with h; subst h; dsimp only; omega
        · injection h with h; subst h; omega
theorem box_ascI {l : List Int} (h : boxOk l = true) : ascI l := fun a b hab hb => by
  rcases Nat.lt_or_ge a b with h1 | h1
  · exact Int.le_of_lt (box_lt h h1 hb)
  · rw [Nat.le_antisymm hab h1]; exact Int.le_refl _
theorem plc_le (l : List Int) (x : Int) : plc l x ≤ l.length := List.countP_le_length
def AwQ (s : Int × Nat) (w : World) (e : Ending) (w' : World) : Prop := ∃ r, e = .returned (.tuple #[.int .i64 s.1, .float .f32 r, .int .i64 0]) ∧ FV r s.2 ∧ Below w.heap.size w w'
set_option maxHeartbeats 8000000 in
theorem addWheel_impl (A : Option Addr) (c : Nat) (l : List Int) (rt : Nat) (w : World) (hA : Kd.C ki16 w A l.length l) (hk : boxOk l = true) (h6 : l.length ≤ 6) (ht : tgt rt = true) (t : Nat) (hrt : FV rt t) {s : Int × Nat} (hs : aw l t 195 = some s) :
    Calls Try.prog 16 #[.slice A l.length c, .float .f32 rt] w (AwQ s w) := by
  obtain ⟨hw, h2, h24⟩ := allW_of hk
  have hasc := box_ascI hk
  have HS := Lib.hid hs
  obtain ⟨b, off, rfl, hbk, _, _, _⟩ := at_ki hA 0 (by omega)
  have HA := Lib.hid hA
  have HT := Lib.hid (fun w => by have := tgt_impl rt w; rw [ht] at this; exact this)
  have HC := Lib.hid (show Calls Try.prog 27 #[.slice (some ⟨b, off, none⟩) l.length c, .bool true] w (fun e w' => e = .returned (.int .i64 0) ∧ w = w') from by have := boxCode_any (some ⟨b, off, none⟩) c l true w hA (by omega); rw [if_pos hk, if_pos rfl] at this; exact this)
  have HASC := Lib.hid hasc
  have HFV := Lib.hid hrt
  have hne24 : ¬ ((l.length : Int) = 24) := by omega
  have hne24' : ((l.length : Int) == 24) = false := beq_eq_false_iff_ne.2 hne24
  clear hA hk ht hs hasc hrt hw
  go_enter Try.func16, Try.ntmps16
  go_wp2_with (first | (go_at_call 35; refine (HT.out _).mono ?_; rintro e w' ⟨rfl, rfl⟩) | (go_at_call 27; refine (HC.out).mono ?_; rintro e w' ⟨rfl, rfl⟩))
  go_loopw [8, 9, 10, 11, 12, 13, 14, 15, 32, 39] (fun at_ be n _ _ _ _ _ _ _ wr => ∃ (k r : Nat), k ≤ 195 ∧ n = .int .i16 (6 + k) ∧ at_ = .int .i64 (ax (aw l t k)) ∧ be = .float .f32 r ∧ Hid (FV r (av (aw l t k))) ∧ Below w.heap.size w wr) (fun _ _ n _ _ _ _ _ _ _ _ => 201 - (intOf n).toNat)
  case atStart => exact ⟨0, 0, by omega, rfl, rfl, rfl, Lib.hid FV_zero, Below.refl _ _⟩
  case round =>
    obtain ⟨k, r, hk, rfl, rfl, rfl, HV, hb⟩ := hrel
    by_cases hlt : k < 195
    · have HC2 := Lib.hid (Kd.C_below HA.out hb)
      have HE := Lib.hid (show aw l t (k + 1) = if isW l (6 + k) = true then aw l t k else match aw l t k with
        | none => some (6 + k, awV l t (6 + k))
        | some s => if flt (awV l t (6 + k)) s.2 = true then some (6 + k, awV l t (6 + k)) else some s from rfl)
      have HSE := search_any (some ⟨b, off, none⟩) c l (6 + k) wr HC2.out HASC.out (by omega) (by omega)
      have HP := Lib.hid (fun s (h : aw l t k = some s) => aw_pos h)
      obtain ⟨st, hst⟩ : ∃ st, aw l t k = st := ⟨_, rfl⟩
      rw [hst] at HE HV HP ⊢
      clear hst
      cases hin : isW l (6 + k)
      · rw [hin] at HSE HE
        have HSE2 := Lib.hid HSE
        have hle : (6 : Int) + k ≤ 200 := by omega
        clear HSE hin
        go_wp2_with fail
        go_at_call 36
        refine (HSE2.out).mono ?_
        rintro e w2 ⟨rfl, q, rfl⟩
        have k2 := bdrewN hb q
        have HC3 := Lib.hid (Kd.C_below HC2.out (bdrewN (Below.refl _ _) q))
        obtain ⟨w2, hw2⟩ : ∃ w2 : World, wr.drewN q = w2 := ⟨_, rfl⟩
        rw [hw2] at k2 HC3 ⊢
        clear hw2 hb HC2 HSE2
        go_wp2_with fail
        go_at_call 39
        refine (clone16_any b off c l w2 HC3.out (by omega)).mono ?_
        rintro e w3 ⟨v, rfl, hR, hb3⟩
        have HR := Lib.hid hR
        have k3 := bstep k2 hb3
        have hsz := hb3.size
        clear hR hb3
        have hpl := plc_le l (6 + k)
        go_wp2_with fail
        go_at_call 38
        refine (insert_any HR.out (by omega) (by omega) hpl hsz (by omega) (by omega)).mono ?_
        rintro e w4 ⟨v4, rfl, hR4, hb4⟩
        have hl4 := insL_len hpl (6 + (k : Int))
        have HAW := Lib.hid (show (bst (insL l (plc l (6 + k)) (6 + k)) t).2.2 = awV l t (6 + k) from rfl)
        obtain ⟨L, hL⟩ : ∃ L, insL l (plc l (6 + (k : Int))) (6 + (k : Int)) = L := ⟨_, rfl⟩
        rw [hL] at hR4 hl4 HAW
        have HL4 := Lib.hid hl4
        clear hL hl4
        obtain ⟨A4, c4, rfl, _, hC4⟩ := RW.reads hR4
        have HC4 := Lib.hid hC4
        have k4 : Below w.heap.size w w4 := k3.trans (hb4.mono k2.size)
        clear hR4 hC4 hb4 k3
        go_wp2_with fail
        go_at_call 37
        refine (best_impl A4 c4 L rt t w4 HC4.out (by have := HL4.out; omega) (by have := HL4.out; omega) HFV.out).mono ?_
        rintro e w5 ⟨r5, rfl, h5, hb5⟩
        have H5 := Lib.hid (show FV r5 (awV l t (6 + k)) by rw [← HAW.out]; exact h5)
        have k5 := bstep k4 hb5
        clear h5 k4 hb5 hpl hsz k2
        cases st with
        | none =>
          have HE2 := Lib.hid (show aw l t (k + 1) = some (6 + (k : Int), awV l t (6 + k)) from HE.out)
          have hax : ax none = 0 := rfl
          rw [hax]
          go_wp2
          go_roundw
          case rel => exact ⟨k + 1, r5, by omega, by go_num, by rw [HE2.out]; rfl, rfl, Lib.hid (by rw [HE2.out]; exact H5.out), k5⟩
          case measure => simp [intOf]; omega
        | some s1 =>
          have hp1 := HP.out s1 rfl
          have hax : ax (some s1) = s1.1 := rfl
          rw [hax]
          have hn0 : ¬ (s1.1 = 0) := by omega
          have hn0' : (s1.1 == 0) = false := beq_eq_false_iff_ne.2 hn0
          have hff : flt r5 r = flt (awV l t (6 + k)) s1.2 := by rw [← flt_cn r5 r, H5.out.1, HV.out.1]; rfl
          cases hf : flt (awV l t (6 + k)) s1.2
          · have HE2 := Lib.hid (show aw l t (k + 1) = some s1 by have := HE.out; simp only [hf, Bool.false_eq_true, if_false] at this; exact this)
            rw [hf] at hff
            clear hf
            go_wp2
            go_roundw
            case rel => exact ⟨k + 1, r, by omega, by go_num, by rw [HE2.out]; rfl, rfl, Lib.hid (by rw [HE2.out]; exact HV.out), k5⟩
            case measure => simp [intOf]; omega
          · have HE2 := Lib.hid (show aw l t (k + 1) = some (6 + (k : Int), awV l t (6 + k)) by have := HE.out; simp only [hf, Bool.false_eq_true, if_false, if_true] at this; exact this)
            rw [hf] at hff
            clear hf
            go_wp2
            go_roundw
            case rel => exact ⟨k + 1, r5, by omega, by go_num, by rw [HE2.out]; rfl, rfl, Lib.hid (by rw [HE2.out]; exact H5.out), k5⟩
            case measure => simp [intOf]; omega
      · rw [hin] at HSE HE
        have HSE2 := Lib.hid HSE
        have HE2 := Lib.hid (show aw l t (k + 1) = st from HE.out)
        have hle : (6 : Int) + k ≤ 200 := by omega
        clear HSE hin
        go_wp2_with fail
        go_at_call 36
        refine (HSE2.out).mono ?_
        rintro e w2 ⟨rfl, q, rfl⟩
        go_wp2
        go_roundw
        case rel => exact ⟨k + 1, r, by omega, by go_num, by rw [HE2.out], rfl, Lib.hid (by rw [HE2.out]; exact HV.out), bdrewN hb q⟩
        case measure => simp [intOf]; omega
    · obtain rfl : k = 195 := by omega
      rw [HS.out] at HV ⊢
      have hax : ax (some s) = s.1 := rfl
      rw [hax]
      go_wp2
      go_ret3
      exact ⟨r, rfl, HV.out, hb⟩
end Go.Proofs.Ytggcajillncamaa
namespace Go.Proofs.Ytggcajillncamaa
open Go.RowKit Ieee
open Go.Proofs.YtggcajillncamaaW.PrintWords
set_option maxRecDepth 100000
attribute [local irreducible] wpRel
section
variable {ops : Array Oper} {o : Oper} {a : Act} {Q : Exit → Act → World → Prop} {Kc : Act → World → Prop}
/-- append(v, ys...) of whole numbers in a region that draws its order. -/
theorem catW_step (base : Nat) {W : World} (hw : Region.wanted o (yielded ops a.tmps) = true) (s x : Operand) (ho : o.op = .call { callee := .builtin .append, args := #[s, x], argTypes := #[24, 24] })
    (v : Value) (xs ys : List Int) (A : Option Addr) (m c : Nat) (hs : a.eval s = v) (hx : a.eval x = .slice A m c)
    (HO : RW ki16 40 W base v xs) (HR : Kd.C ki16 W A m ys) (hb : base ≤ W.heap.size) (hl : xs.length + m ≤ 2097152)
    (h : ∀ v1 w1, RW ki16 40 w1 base v1 (xs ++ ys) → W.grownBy w1 v.ownBlock → (v1.ownBlock = v.ownBlock ∨ ∃ b, v1.ownBlock = some b ∧ W.heap.size ≤ b) → Kc (a.put o.dst v1) w1) :
    if Region.wanted o (yielded ops a.tmps) = true then Oper.wp Try.prog o a W Kc Q else Kc (a.put o.dst undef) W :=
  Kd.R_append_rows_step ki16 (Rr := ki16.K W) (w0 := W) base hw s x 24 40 (.int .i16 0) 2 ho Try.underlying24 info_i16 rfl (by decide) (by decide) v xs ys A m c (fun _ => True) (fun _ => False) hs hx HO HR (fun _ _ h => h) (fun _ h => h.elim) (fun _ _ => trivial) (Below.refl _ _) hb (by omega) fun v1 w1 h1 _ h2 h3 => h v1 w1 h1 h2 h3
end
end Go.Proofs.Ytggcajillncamaa
namespace Go.Proofs.Ytggcajillncamaa
open Go.RowKit Ieee
open Go.Proofs.YtggcajillncamaaW.PrintWords
set_option maxRecDepth 100000
attribute [local irreducible] wpRel
theorem asked_any (A : Option Addr) (c : Nat) (l : List Int) (rt : Nat) (w : World) (hA : Kd.C ki16 w A l.length l) (hk : boxOk l = true) (hm : l.length ≤ 1000) (ht : tgt rt = true) :
    Calls Try.prog 33 #[.slice A l.length c, .float .f32 rt, .float .f32 0] w fun e w' => e = .returned (.int .i64 0) ∧ Below w.heap.size w w' := by
  have HO := Lib.hid (show Calls Try.prog 24 #[.slice A l.length c] w fun e w' => e = .returned (.bool true) ∧ Below w.heap.size w w' by have := l05Ok_any A c l w hA (by omega); rw [hk] at this; exact this)
  have HT := Lib.hid (fun w => by have := tgt_spec rt w; rw [ht] at this; exact this)
  have HP := Lib.hid (fun w => by have := part_any 0 w; rw [show part 0 = true from by decide] at this; exact this)
  clear hA hk ht
  go_enter Try.func33, Try.ntmps33
  go_wp2_with fail
  go_at_call 24
  refine (HO.out).mono ?_
  rintro e w1 ⟨rfl, hb1⟩
  go_wp2_with (first | (go_at_call 21; refine (HT.out _).mono ?_; rintro e w' ⟨rfl, rfl⟩) | (go_at_call 56; refine (HP.out _).mono ?_; rintro e w' ⟨rfl, rfl⟩))
  go_ret
  exact ⟨rfl, hb1⟩
theorem results_tmp4 {fn : Func} {t u v x : Tmp} (h : fn.results = #[.tmp t, .tmp u, .tmp v, .tmp x]) (tmps : Array Value) (P : Program) (w : World) :
    (results fn tmps).run P w = .ok (.tuple #[tmps.getD t undef, tmps.getD u undef, tmps.getD v undef, tmps.getD x undef]) w := by
  simp [results, h]
/-- spec.BestPair of a valid box and a target. -/
theorem bestPair_spec (A : Option Addr) (c : Nat) (l : List Int) (rt t : Nat) (w : World) (hA : Kd.C ki16 w A l.length l) (hk : boxOk l = true) (ht : tgt rt = true) (hrt : FV rt t) :
    Calls Try.prog 15 #[.slice A l.length c, .float .f32 rt] w fun e w' => ∃ r, e = .returned (.tuple #[.int .i64 (bst l t).1, .int .i64 (bst l t).2.1, .float .f32 r, .int .i64 0]) ∧ FV r (bst l t).2.2 ∧ Below w.heap.size w w' := by
  obtain ⟨_, h2, h24⟩ := allW_of hk
  have HQ := Lib.hid (asked_any A c l rt w hA hk (by omega) ht)
  have HB := Lib.hid (fun w1 (h : Below w.heap.size w w1) => best_spec A c l rt t w1 (Kd.C_below hA h) h2 h24 hrt)
  obtain ⟨out, hout⟩ : ∃ out, bst l t = out := ⟨_, rfl⟩
  rw [hout] at HB ⊢
  clear hA hk ht hrt hout
  go_enter Try.func15, Try.ntmps15
  go_wp2_with fail
  go_at_call 33
  refine (HQ.out).mono ?_
  rintro e w1 ⟨rfl, hb1⟩
  go_wp2_with fail
  go_at_call 34
  refine (HB.out _ hb1).mono ?_
  rintro e w2 ⟨r, rfl, hr, hb2⟩
  have HR := Lib.hid hr
  clear hr
  go_wp2
  all_goals ((try simp only [Exit.inBlock, Exit.then]); refine bodyPost_ret (results_tmp4 rfl _ _ _) rfl ?_; exact ⟨r, rfl, HR.out, bstep hb1 hb2⟩)
end Go.Proofs.Ytggcajillncamaa
namespace Go.Proofs.Ytggcajillncamaa
open Go.RowKit Ieee
open Go.Proofs.YtggcajillncamaaW.PrintWords
set_option maxRecDepth 100000
attribute [local irreducible] wpRel
theorem lit16 (w : World) {z : Int} (base : Nat) (hb : base ≤ w.heap.size) (h1 : -32768 ≤ z) (h2 : z ≤ 32767) : RW ki16 40 (w.alloc (.cells #[.int .i16 z] 40)) base (.slice (some ⟨w.heap.size, 0, none⟩) 1 1) [z] :=
  row_shut16 hb (heap_alloc_new w _) (Nat.le_refl 1) (by decide) rfl (fun v hv => by simp at hv; omega) rfl
theorem RW.reads1 {w : World} {base : Nat} {A : Option Addr} {n c : Nat} {xs : List Int} (h : RW ki16 40 w base (.slice A n c) xs) : Kd.C ki16 w A xs.length xs := by
  obtain ⟨A', c', e, _, hC⟩ := RW.reads h
  injection e with e1 _ _
  subst e1
  exact hC
theorem info_i16' : ∃ i, Try.prog.info? 40 = some i ∧ i.size = 1 := by
  obtain ⟨i, h, e⟩ := Option.map_eq_some_iff.1 info_i16
  simp only [Prod.mk.injEq] at e
  exact ⟨i, h, e.2.1⟩
theorem cut16_C {w : World} {A : Option Addr} {xs : List Int} {c m : Nat} (h : Kd.C ki16 w A xs.length xs) (hm : m ≤ xs.length) (hc : xs.length ≤ c) : Kd.C ki16 w (cutAd A c m) (xs.length - m) (xs.drop m) := by
  have := Kd.C_drop h hm hc
  rw [List.length_drop] at this
  exact this
theorem cut16t_C {w : World} {A : Option Addr} {xs : List Int} {m : Nat} (h : Kd.C ki16 w A xs.length xs) (hm : m ≤ xs.length) : Kd.C ki16 w A m (xs.take m) := by
  have := Kd.C_take h hm
  rw [List.length_take, Nat.min_eq_left hm] at this
  exact this
theorem cut16F (A : Option Addr) (n c k : Nat) (hk : k ≤ n) (W : World) : (Instr.slice 24 (.slice A n c) (some (.int .i64 (k : Int))) none none).run Try.prog W = .ok (.slice (cutAd A c k) (n - k) (c - k)) W := by
  obtain ⟨i, hi, hs⟩ := info_i16'
  have := cut_from (P := Try.prog) 24 40 .i64 Try.underlying24 hi 1 hs A n c (k : Int) (by omega) (by omega) W
  simpa only [Int.toNat_natCast, cutAd] using this
theorem cut16T (A : Option Addr) (n c k : Nat) (hk : k ≤ n) (hc : n ≤ c) (W : World) : (Instr.slice 24 (.slice A n c) none (some (.int .i64 (k : Int))) none).run Try.prog W = .ok (.slice A k c) W := by
  obtain ⟨i, hi, hs⟩ := info_i16'
  have := cut_to (P := Try.prog) 24 40 .i64 Try.underlying24 hi A n c (k : Int) (by omega) (by omega) hc W
  simpa only [Int.toNat_natCast] using this
def bx1 : Option (Int × Nat) → Int
  | none => -1
  | some s => s.1
set_option maxHeartbeats 8000000 in
theorem addWheel_spec (A : Option Addr) (c : Nat) (l : List Int) (rt : Nat) (w : World) (hA : Kd.C ki16 w A l.length l) (hc : l.length ≤ c) (hk : boxOk l = true) (h6 : l.length ≤ 6) (ht : tgt rt = true) (t : Nat) (hrt : FV rt t) {s : Int × Nat} (hs : aw l t 195 = some s) :
    Calls Try.prog 17 #[.slice A l.length c, .float .f32 rt] w (AwQ s w) := by
  obtain ⟨hw, h2, h24⟩ := allW_of hk
  have hasc := box_ascI hk
  have HS := Lib.hid hs
  have HQ := Lib.hid (asked_any A c l rt w hA hk (by omega) ht)
  obtain ⟨b, off, rfl, hbk, _, _, _⟩ := at_ki hA 0 (by omega)
  have HA := Lib.hid hA
  have HASC := Lib.hid hasc
  have HFV := Lib.hid hrt
  have hne24 : ¬ ((l.length : Int) = 24) := by omega
  have hne24' : ((l.length : Int) == 24) = false := beq_eq_false_iff_ne.2 hne24
  clear hA hk ht hs hasc hrt hw
  go_enter Try.func17, Try.ntmps17
  go_wp2_with fail
  go_at_call 33
  refine (HQ.out).mono ?_
  rintro e w0 ⟨rfl, hb0⟩
  go_wp2
  go_loopw [8, 9, 10, 11, 12, 13, 14, 15] (fun at_ be n _ _ _ _ _ wr => ∃ (k r : Nat), k ≤ 195 ∧ n = .int .i16 (6 + k) ∧ at_ = .int .i64 (bx1 (aw l t k)) ∧ be = .float .f32 r ∧ Hid (FV r (av (aw l t k))) ∧ Below w.heap.size w wr) (fun _ _ n _ _ _ _ _ _ => 201 - (intOf n).toNat)
  case atStart => exact ⟨0, 0, by omega, rfl, rfl, rfl, Lib.hid FV_zero, hb0⟩
  case round =>
    clear hb0
    obtain ⟨k, r, hk, rfl, rfl, rfl, HV, hb⟩ := hrel
    by_cases hlt : k < 195
    · have HC2 := Lib.hid (Kd.C_below HA.out hb)
      have HE := Lib.hid (show aw l t (k + 1) = if isW l (6 + k) = true then aw l t k else match aw l t k with
        | none => some (6 + k, awV l t (6 + k))
        | some s => if flt (awV l t (6 + k)) s.2 = true then some (6 + k, awV l t (6 + k)) else some s from rfl)
      have HP := Lib.hid (fun s (h : aw l t k = some s) => aw_pos h)
      obtain ⟨st, hst⟩ : ∃ st, aw l t k = st := ⟨_, rfl⟩
      rw [hst] at HE HV HP ⊢
      clear hst
      obtain ⟨x, hx⟩ : ∃ x : Int, (6 : Int) + k = x := ⟨_, rfl⟩
      have hx1 : x ≤ 200 := by omega
      have hx0 : 6 ≤ x := by omega
      have hxk : x = 6 + k := hx.symm
      rw [hx] at HE ⊢
      clear hx
      have HQS := Lib.hid (fun j (hj : j ≤ l.length) (h1 : ∀ i, i < j → l.getD i 0 < x) (h2 : ∀ i, j ≤ i → i < l.length → x ≤ l.getD i 0) => plc_eq (l := l) (x := x) hj h1 h2)
      have HK := Lib.hid (show x = 6 + k ∧ k < 195 from ⟨hxk, hlt⟩)
      clear hk hlt hxk
      go_wp2
      go_loop [11] (fun v => ∃ j : Nat, j ≤ l.length ∧ v = .int .i64 j ∧ Hid (∀ i, i < j → l.getD i 0 < x)) (fun v => l.length - (intOf v).toNat)
      case atStart => exact ⟨0, Nat.zero_le _, rfl, Lib.hid (fun i hi => absurd hi (by omega))⟩
      case round =>
        obtain ⟨j, hj, rfl, HT⟩ := hrel
        by_cases hjl : j < l.length
        · obtain ⟨b', off', e', _, c0, _, _⟩ := at_ki HA.out j hjl
          injection e' with e'
          injection e' with e1 e2
          subst e1 e2
          have d0 := (bc hb b (off + j) hbk).trans c0
          have hlb : b < wr.heap.size := Nat.lt_of_lt_of_le hbk hb.size
          clear c0
          obtain ⟨y, hy⟩ : ∃ y, l.getD j 0 = y := ⟨_, rfl⟩
          rw [hy] at d0
          have HY := Lib.hid hy
          clear hy
          by_cases hyx : y < x
          · have HT2 : Hid (∀ i, i < j + 1 → l.getD i 0 < x) := Lib.hid (fun i hi => by
              by_cases e : i = j
              · subst e; rw [HY.out]; exact hyx
              · exact HT.out i (by omega))
            go_wp2
            go_round
            case rel => exact ⟨j + 1, hjl, by go_num, HT2⟩
            case measure => simp [intOf]; omega
          · have hp : plc l x = j := HQS.out j hj HT.out (fun i h1 h2 => by
              have := HASC.out j i h1 h2
              rw [HY.out] at this
              omega)
            by_cases hye : y = x
            · have HISW := Lib.hid (show isW l x = true by unfold isW; rw [hp, HY.out]; exact decide_eq_true ⟨hjl, hye⟩)
              have HE2 := Lib.hid (show aw l t (k + 1) = st by have := HE.out; rw [HISW.out] at this; simpa only [if_true] using this)
              clear HT HQS hp
              go_wp2
              go_roundw
              case rel => exact ⟨k + 1, r, by have := HK.out; omega, by have := HK.out; go_num, by rw [HE2.out], rfl, Lib.hid (by rw [HE2.out]; exact HV.out), hb⟩
              case measure => have := HK.out; simp [intOf]; omega
            · have HISW := Lib.hid (show isW l x = false by unfold isW; rw [hp, HY.out]; exact decide_eq_false (fun h => hye h.2))
              have HPJ := Lib.hid hp
              have hct := cut16T (some ⟨b, off, none⟩) l.length c j hj hc
              have hcf := cut16F (some ⟨b, off, none⟩) l.length c j hj
              obtain ⟨A2, hA2⟩ : ∃ A2, cutAd (some ⟨b, off, none⟩) c j = A2 := ⟨_, rfl⟩
              rw [hA2] at hcf
              have HA2 := Lib.hid hA2
              have hbw := hb.size
              have hl4 := insL_len hj x
              have HAW := Lib.hid (show (bst (insL l j x) t).2.2 = awV l t x by unfold awV; rw [HPJ.out])
              obtain ⟨L, hL⟩ : ∃ L, insL l j x = L := ⟨_, rfl⟩
              rw [hL] at hl4 HAW
              have HL4 := Lib.hid hl4
              have HLL := Lib.hid hL
              clear hp hA2 HT HQS hL hl4
              have HJ := Lib.hid hj
              have HX0 := Lib.hid (show -32768 ≤ x ∧ x ≤ 32767 by omega)
              have HLEN0 := Lib.hid (show ([] : List Int).length + j ≤ 2097152 by simp; omega)
              have HLEN1 := Lib.hid (show (l.take j).length + 1 ≤ 2097152 by rw [List.length_take]; omega)
              have HLEN2 := Lib.hid (show (l.take j ++ [x]).length + (l.length - j) ≤ 2097152 by rw [List.length_append, List.length_take]; simp; omega)
              have HE1a := Lib.hid ((RW.empty (w := wr.alloc (.cells #[] 40)) ki16 40 w.heap.size wr.heap.size (heap_alloc_new wr _) hbw).drew)
              have HE1b := Lib.hid (((RW.empty (w := wr.alloc (.cells #[] 40)) ki16 40 w.heap.size wr.heap.size (heap_alloc_new wr _) hbw).alloc (.cells #[.int .i16 x] 40)).drew)
              have hbs1 := (balloc hb (.cells #[.int .i16 x] 40)).size
              have hbs2 := (balloc hb (.cells #[] 40)).size
              have HE2 := Lib.hid (show RW ki16 40 ((wr.alloc (.cells #[.int .i16 x] 40)).alloc (.cells #[] 40)).drew w.heap.size (.slice (some ⟨wr.heap.size + 1, 0, none⟩) 0 0) [] by have := (RW.empty (w := (wr.alloc (.cells #[.int .i16 x] 40)).alloc (.cells #[] 40)) ki16 40 w.heap.size (wr.alloc (.cells #[.int .i16 x] 40)).heap.size (heap_alloc_new _ _) hbs1).drew; simpa using this)
              have HL1b := Lib.hid (show RW ki16 40 ((wr.alloc (.cells #[] 40)).alloc (.cells #[.int .i16 x] 40)).drew w.heap.size (.slice (some ⟨wr.heap.size + 1, 0, none⟩) 1 1) [x] by have := (lit16 (z := x) (wr.alloc (.cells #[] 40)) w.heap.size hbs2 (by omega) (by omega)).drew; simpa using this)
              have HL2 := Lib.hid ((((lit16 (z := x) wr w.heap.size hbw (by omega) (by omega))).alloc (.cells #[] 40)).drew)
              have HB1 := Lib.hid (bdrew (balloc hb (.cells #[] 40)))
              have HB2 := Lib.hid (bdrew (balloc (balloc hb (.cells #[] 40)) (.cells #[.int .i16 x] 40)))
              have HB3 := Lib.hid (bdrew (balloc (balloc hb (.cells #[.int .i16 x] 40)) (.cells #[] 40)))
              clear hbs1 hbs2
              go_wp2
              go_region_held3 (fun w' => Hid (Below w.heap.size w w')) (first | exact Lib.hid (bdrew hb) | exact Lib.hid (bdrew (balloc hb _)) | exact Lib.hid (bdrew (balloc (balloc hb _) _)) | exact Lib.hid hb66 | exact Lib.hid hb62 | exact Lib.hid hb59 | exact Lib.hid (balloc hb59 _)) (first
                | (refine catW_step w.heap.size (by rfl) (.tmp 55) (.tmp 58) (by rfl) (.slice (some ⟨wr.heap.size, 0, none⟩) 0 0) [] (l.take j) (some ⟨b, off, none⟩) j c (by rfl) (by rfl) HE1a.out (cut16t_C (Kd.C_below HA.out HB1.out) HJ.out) HB1.out.size HLEN0.out ?_; intro v59 w59 h59 hg59 _; rw [List.nil_append] at h59; (have H59 := Lib.hid h59); (have hb59 : Below w.heap.size w w59 := HB1.out.grown hg59 HB1.out.size (fun k hk => by simp [Value.ownBlock] at hk; omega)); clear h59 hg59)
                | (refine catW_step w.heap.size (by rfl) (.tmp 55) (.tmp 58) (by rfl) (.slice (some ⟨wr.heap.size, 0, none⟩) 0 0) [] (l.take j) (some ⟨b, off, none⟩) j c (by rfl) (by rfl) HE1b.out (cut16t_C (Kd.C_below HA.out HB2.out) HJ.out) HB2.out.size HLEN0.out ?_; intro v59 w59 h59 hg59 _; rw [List.nil_append] at h59; (have H59 := Lib.hid h59); (have hb59 : Below w.heap.size w w59 := HB2.out.grown hg59 HB2.out.size (fun k hk => by simp [Value.ownBlock] at hk; omega)); (have HCL := Lib.hid (RW.reads1 (HL1b.out.grown rfl hg59 (fun k hk he => by simp [Value.ownBlock] at hk he; omega)))); clear h59 hg59)
                | (refine catW_step w.heap.size (by rfl) (.tmp 55) (.tmp 58) (by rfl) (.slice (some ⟨wr.heap.size + 1, 0, none⟩) 0 0) [] (l.take j) (some ⟨b, off, none⟩) j c (by rfl) (by rfl) HE2.out (cut16t_C (Kd.C_below HA.out HB3.out) HJ.out) HB3.out.size HLEN0.out ?_; intro v59 w59 h59 hg59 _; rw [List.nil_append] at h59; (have H59 := Lib.hid h59); (have hb59 : Below w.heap.size w w59 := HB3.out.grown hg59 HB3.out.size (fun k hk => by simp [Value.ownBlock] at hk; omega)); (have HCL := Lib.hid (RW.reads1 (HL2.out.grown rfl hg59 (fun k hk he => by simp [Value.ownBlock] at hk he; omega)))); clear h59 hg59)
                | (refine catW_step w.heap.size (by rfl) (.tmp 59) (.tmp 61) (by rfl) v59 (l.take j) [x] (some ⟨w59.heap.size, 0, none⟩) 1 1 (by rfl) (by rfl) (H59.out.alloc _) (RW.reads1 (lit16 w59 w.heap.size hb59.size HX0.out.1 HX0.out.2)) (balloc hb59 _).size HLEN1.out ?_; intro v62 w62 h62 hg62 _; (have H62 := Lib.hid h62); (have hb62 : Below w.heap.size w w62 := (balloc hb59 _).grown hg62 (balloc hb59 _).size (fun k hk => H59.out.base_le k hk)); clear h62 hg62)
                | (refine catW_step w.heap.size (by rfl) (.tmp 59) (.tmp 61) (by rfl) v59 (l.take j) [x] (some ⟨wr.heap.size, 0, none⟩) 1 1 (by rfl) (by rfl) H59.out HCL.out hb59.size HLEN1.out ?_; intro v62 w62 h62 hg62 _; (have H62 := Lib.hid h62); (have hb62 : Below w.heap.size w w62 := hb59.grown hg62 hb59.size (fun k hk => H59.out.base_le k hk)); clear h62 hg62)
                | (refine catW_step w.heap.size (by rfl) (.tmp 59) (.tmp 61) (by rfl) v59 (l.take j) [x] (some ⟨wr.heap.size + 1, 0, none⟩) 1 1 (by rfl) (by rfl) H59.out HCL.out hb59.size HLEN1.out ?_; intro v62 w62 h62 hg62 _; (have H62 := Lib.hid h62); (have hb62 : Below w.heap.size w w62 := hb59.grown hg62 hb59.size (fun k hk => H59.out.base_le k hk)); clear h62 hg62)
                | (refine catW_step w.heap.size (by rfl) (.tmp 62) (.tmp 65) (by rfl) v62 (l.take j ++ [x]) (l.drop j) A2 (l.length - j) (c - j) (by rfl) (by rfl) H62.out (by rw [← HA2.out]; exact cut16_C (Kd.C_below HA.out hb62) HJ.out hc) hb62.size HLEN2.out ?_; intro v66 w66 h66 hg66 _; rw [List.append_assoc, List.singleton_append, show l.take j ++ x :: l.drop j = L from HLL.out] at h66; obtain ⟨A4, c4, hv66, _, hC4⟩ := RW.reads h66; subst hv66; (have HC4 := Lib.hid hC4); (have hb66 : Below w.heap.size w w66 := hb62.grown hg66 hb62.size (fun k hk => H62.out.base_le k hk)); clear h66 hg66 hC4))
              all_goals
                go_wp2_with fail
                go_at_call 34
                refine (best_spec A4 c4 L rt t w66 HC4.out (by have := HL4.out; omega) (by have := HL4.out; omega) HFV.out).mono ?_
                rintro e w5 ⟨r5, rfl, h5, hb5⟩
                have H5 := Lib.hid (show FV r5 (awV l t x) by rw [← HAW.out]; exact h5)
                have k5 := bstep hb66 hb5
                clear h5 hb5
                cases st with
                | none =>
                  have HE2 := Lib.hid (show aw l t (k + 1) = some (x, awV l t x) by have := HE.out; rw [HISW.out] at this; simpa only [Bool.false_eq_true, if_false] using this)
                  have hax : bx1 none = -1 := rfl
                  rw [hax]
                  go_wp2
                  go_roundw
                  case rel => exact ⟨k + 1, r5, by have := HK.out; omega, by have := HK.out; go_num, by rw [HE2.out]; rfl, rfl, Lib.hid (by rw [HE2.out]; exact H5.out), k5⟩
                  case measure => have := HK.out; simp [intOf]; omega
                | some s1 =>
                  have hp1 := (HP.out s1 rfl).1
                  have hax : bx1 (some s1) = s1.1 := rfl
                  rw [hax]
                  have hn0 : ¬ (s1.1 < 0) := by omega
                  have hff : flt r5 r = flt (awV l t x) s1.2 := by rw [← flt_cn r5 r, H5.out.1, HV.out.1]; rfl
                  have HEB := Lib.hid (show aw l t (k + 1) = if flt (awV l t x) s1.2 = true then some (x, awV l t x) else some s1 by have := HE.out; rw [HISW.out] at this; simpa only [Bool.false_eq_true, if_false] using this)
                  cases hf : flt (awV l t x) s1.2
                  · have HE2 := Lib.hid (show aw l t (k + 1) = some s1 by have := HEB.out; rw [hf] at this; exact this)
                    rw [hf] at hff
                    clear hf
                    go_wp2
                    go_roundw
                    case rel => exact ⟨k + 1, r, by have := HK.out; omega, by have := HK.out; go_num, by rw [HE2.out]; rfl, rfl, Lib.hid (by rw [HE2.out]; exact HV.out), k5⟩
                    case measure => have := HK.out; simp [intOf]; omega
                  · have HE2 := Lib.hid (show aw l t (k + 1) = some (x, awV l t x) by have := HEB.out; rw [hf] at this; exact this)
                    rw [hf] at hff
                    clear hf
                    go_wp2
                    go_roundw
                    case rel => exact ⟨k + 1, r5, by have := HK.out; omega, by have := HK.out; go_num, by rw [HE2.out]; rfl, rfl, Lib.hid (by rw [HE2.out]; exact H5.out), k5⟩
                    case measure => have := HK.out; simp [intOf]; omega
        · have hy0 : ¬ ((j : Int) < (l.length : Int)) := by omega
          have hp : plc l x = j := HQS.out j hj HT.out (fun i h1 h2 => by omega)
          have HISW := Lib.hid (show isW l x = false by unfold isW; rw [hp]; exact decide_eq_false (fun h => hjl h.1))
          have HPJ := Lib.hid hp
          have hct := cut16T (some ⟨b, off, none⟩) l.length c j hj hc
          have hcf := cut16F (some ⟨b, off, none⟩) l.length c j hj
          obtain ⟨A2, hA2⟩ : ∃ A2, cutAd (some ⟨b, off, none⟩) c j = A2 := ⟨_, rfl⟩
          rw [hA2] at hcf
          have HA2 := Lib.hid hA2
          have hbw := hb.size
          have hl4 := insL_len hj x
          have HAW := Lib.hid (show (bst (insL l j x) t).2.2 = awV l t x by unfold awV; rw [HPJ.out])
          obtain ⟨L, hL⟩ : ∃ L, insL l j x = L := ⟨_, rfl⟩
          rw [hL] at hl4 HAW
          have HL4 := Lib.hid hl4
          have HLL := Lib.hid hL
          clear hp hA2 HT HQS hL hl4
          have HJ := Lib.hid hj
          have HX0 := Lib.hid (show -32768 ≤ x ∧ x ≤ 32767 by omega)
          have HLEN0 := Lib.hid (show ([] : List Int).length + j ≤ 2097152 by simp; omega)
          have HLEN1 := Lib.hid (show (l.take j).length + 1 ≤ 2097152 by rw [List.length_take]; omega)
          have HLEN2 := Lib.hid (show (l.take j ++ [x]).length + (l.length - j) ≤ 2097152 by rw [List.length_append, List.length_take]; simp; omega)
          have HE1a := Lib.hid ((RW.empty (w := wr.alloc (.cells #[] 40)) ki16 40 w.heap.size wr.heap.size (heap_alloc_new wr _) hbw).drew)
          have HE1b := Lib.hid (((RW.empty (w := wr.alloc (.cells #[] 40)) ki16 40 w.heap.size wr.heap.size (heap_alloc_new wr _) hbw).alloc (.cells #[.int .i16 x] 40)).drew)
          have hbs1 := (balloc hb (.cells #[.int .i16 x] 40)).size
          have hbs2 := (balloc hb (.cells #[] 40)).size
          have HE2 := Lib.hid (show RW ki16 40 ((wr.alloc (.cells #[.int .i16 x] 40)).alloc (.cells #[] 40)).drew w.heap.size (.slice (some ⟨wr.heap.size + 1, 0, none⟩) 0 0) [] by have := (RW.empty (w := (wr.alloc (.cells #[.int .i16 x] 40)).alloc (.cells #[] 40)) ki16 40 w.heap.size (wr.alloc (.cells #[.int .i16 x] 40)).heap.size (heap_alloc_new _ _) hbs1).drew; simpa using this)
          have HL1b := Lib.hid (show RW ki16 40 ((wr.alloc (.cells #[] 40)).alloc (.cells #[.int .i16 x] 40)).drew w.heap.size (.slice (some ⟨wr.heap.size + 1, 0, none⟩) 1 1) [x] by have := (lit16 (z := x) (wr.alloc (.cells #[] 40)) w.heap.size hbs2 (by omega) (by omega)).drew; simpa using this)
          have HL2 := Lib.hid ((((lit16 (z := x) wr w.heap.size hbw (by omega) (by omega))).alloc (.cells #[] 40)).drew)
          have HB1 := Lib.hid (bdrew (balloc hb (.cells #[] 40)))
          have HB2 := Lib.hid (bdrew (balloc (balloc hb (.cells #[] 40)) (.cells #[.int .i16 x] 40)))
          have HB3 := Lib.hid (bdrew (balloc (balloc hb (.cells #[.int .i16 x] 40)) (.cells #[] 40)))
          clear hbs1 hbs2
          go_wp2
          go_region_held3 (fun w' => Hid (Below w.heap.size w w')) (first | exact Lib.hid (bdrew hb) | exact Lib.hid (bdrew (balloc hb _)) | exact Lib.hid (bdrew (balloc (balloc hb _) _)) | exact Lib.hid hb66 | exact Lib.hid hb62 | exact Lib.hid hb59 | exact Lib.hid (balloc hb59 _)) (first
            | (refine catW_step w.heap.size (by rfl) (.tmp 55) (.tmp 58) (by rfl) (.slice (some ⟨wr.heap.size, 0, none⟩) 0 0) [] (l.take j) (some ⟨b, off, none⟩) j c (by rfl) (by rfl) HE1a.out (cut16t_C (Kd.C_below HA.out HB1.out) HJ.out) HB1.out.size HLEN0.out ?_; intro v59 w59 h59 hg59 _; rw [List.nil_append] at h59; (have H59 := Lib.hid h59); (have hb59 : Below w.heap.size w w59 := HB1.out.grown hg59 HB1.out.size (fun k hk => by simp [Value.ownBlock] at hk; omega)); clear h59 hg59)
            | (refine catW_step w.heap.size (by rfl) (.tmp 55) (.tmp 58) (by rfl) (.slice (some ⟨wr.heap.size, 0, none⟩) 0 0) [] (l.take j) (some ⟨b, off, none⟩) j c (by rfl) (by rfl) HE1b.out (cut16t_C (Kd.C_below HA.out HB2.out) HJ.out) HB2.out.size HLEN0.out ?_; intro v59 w59 h59 hg59 _; rw [List.nil_append] at h59; (have H59 := Lib.hid h59); (have hb59 : Below w.heap.size w w59 := HB2.out.grown hg59 HB2.out.size (fun k hk => by simp [Value.ownBlock] at hk; omega)); (have HCL := Lib.hid (RW.reads1 (HL1b.out.grown rfl hg59 (fun k hk he => by simp [Value.ownBlock] at hk he; omega)))); clear h59 hg59)
            | (refine catW_step w.heap.size (by rfl) (.tmp 55) (.tmp 58) (by rfl) (.slice (some ⟨wr.heap.size + 1, 0, none⟩) 0 0) [] (l.take j) (some ⟨b, off, none⟩) j c (by rfl) (by rfl) HE2.out (cut16t_C (Kd.C_below HA.out HB3.out) HJ.out) HB3.out.size HLEN0.out ?_; intro v59 w59 h59 hg59 _; rw [List.nil_append] at h59; (have H59 := Lib.hid h59); (have hb59 : Below w.heap.size w w59 := HB3.out.grown hg59 HB3.out.size (fun k hk => by simp [Value.ownBlock] at hk; omega)); (have HCL := Lib.hid (RW.reads1 (HL2.out.grown rfl hg59 (fun k hk he => by simp [Value.ownBlock] at hk he; omega)))); clear h59 hg59)
            | (refine catW_step w.heap.size (by rfl) (.tmp 59) (.tmp 61) (by rfl) v59 (l.take j) [x] (some ⟨w59.heap.size, 0, none⟩) 1 1 (by rfl) (by rfl) (H59.out.alloc _) (RW.reads1 (lit16 w59 w.heap.size hb59.size HX0.out.1 HX0.out.2)) (balloc hb59 _).size HLEN1.out ?_; intro v62 w62 h62 hg62 _; (have H62 := Lib.hid h62); (have hb62 : Below w.heap.size w w62 := (balloc hb59 _).grown hg62 (balloc hb59 _).size (fun k hk => H59.out.base_le k hk)); clear h62 hg62)
            | (refine catW_step w.heap.size (by rfl) (.tmp 59) (.tmp 61) (by rfl) v59 (l.take j) [x] (some ⟨wr.heap.size, 0, none⟩) 1 1 (by rfl) (by rfl) H59.out HCL.out hb59.size HLEN1.out ?_; intro v62 w62 h62 hg62 _; (have H62 := Lib.hid h62); (have hb62 : Below w.heap.size w w62 := hb59.grown hg62 hb59.size (fun k hk => H59.out.base_le k hk)); clear h62 hg62)
            | (refine catW_step w.heap.size (by rfl) (.tmp 59) (.tmp 61) (by rfl) v59 (l.take j) [x] (some ⟨wr.heap.size + 1, 0, none⟩) 1 1 (by rfl) (by rfl) H59.out HCL.out hb59.size HLEN1.out ?_; intro v62 w62 h62 hg62 _; (have H62 := Lib.hid h62); (have hb62 : Below w.heap.size w w62 := hb59.grown hg62 hb59.size (fun k hk => H59.out.base_le k hk)); clear h62 hg62)
            | (refine catW_step w.heap.size (by rfl) (.tmp 62) (.tmp 65) (by rfl) v62 (l.take j ++ [x]) (l.drop j) A2 (l.length - j) (c - j) (by rfl) (by rfl) H62.out (by rw [← HA2.out]; exact cut16_C (Kd.C_below HA.out hb62) HJ.out hc) hb62.size HLEN2.out ?_; intro v66 w66 h66 hg66 _; rw [List.append_assoc, List.singleton_append, show l.take j ++ x :: l.drop j = L from HLL.out] at h66; obtain ⟨A4, c4, hv66, _, hC4⟩ := RW.reads h66; subst hv66; (have HC4 := Lib.hid hC4); (have hb66 : Below w.heap.size w w66 := hb62.grown hg66 hb62.size (fun k hk => H62.out.base_le k hk)); clear h66 hg66 hC4))
          all_goals
            go_wp2_with fail
            go_at_call 34
            refine (best_spec A4 c4 L rt t w66 HC4.out (by have := HL4.out; omega) (by have := HL4.out; omega) HFV.out).mono ?_
            rintro e w5 ⟨r5, rfl, h5, hb5⟩
            have H5 := Lib.hid (show FV r5 (awV l t x) by rw [← HAW.out]; exact h5)
            have k5 := bstep hb66 hb5
            clear h5 hb5
            cases st with
            | none =>
              have HE2 := Lib.hid (show aw l t (k + 1) = some (x, awV l t x) by have := HE.out; rw [HISW.out] at this; simpa only [Bool.false_eq_true, if_false] using this)
              have hax : bx1 none = -1 := rfl
              rw [hax]
              go_wp2
              go_roundw
              case rel => exact ⟨k + 1, r5, by have := HK.out; omega, by have := HK.out; go_num, by rw [HE2.out]; rfl, rfl, Lib.hid (by rw [HE2.out]; exact H5.out), k5⟩
              case measure => have := HK.out; simp [intOf]; omega
            | some s1 =>
              have hp1 := (HP.out s1 rfl).1
              have hax : bx1 (some s1) = s1.1 := rfl
              rw [hax]
              have hn0 : ¬ (s1.1 < 0) := by omega
              have hff : flt r5 r = flt (awV l t x) s1.2 := by rw [← flt_cn r5 r, H5.out.1, HV.out.1]; rfl
              have HEB := Lib.hid (show aw l t (k + 1) = if flt (awV l t x) s1.2 = true then some (x, awV l t x) else some s1 by have := HE.out; rw [HISW.out] at this; simpa only [Bool.false_eq_true, if_false] using this)
              cases hf : flt (awV l t x) s1.2
              · have HE2 := Lib.hid (show aw l t (k + 1) = some s1 by have := HEB.out; rw [hf] at this; exact this)
                rw [hf] at hff
                clear hf
                go_wp2
                go_roundw
                case rel => exact ⟨k + 1, r, by have := HK.out; omega, by have := HK.out; go_num, by rw [HE2.out]; rfl, rfl, Lib.hid (by rw [HE2.out]; exact HV.out), k5⟩
                case measure => have := HK.out; simp [intOf]; omega
              · have HE2 := Lib.hid (show aw l t (k + 1) = some (x, awV l t x) by have := HEB.out; rw [hf] at this; exact this)
                rw [hf] at hff
                clear hf
                go_wp2
                go_roundw
                case rel => exact ⟨k + 1, r5, by have := HK.out; omega, by have := HK.out; go_num, by rw [HE2.out]; rfl, rfl, Lib.hid (by rw [HE2.out]; exact H5.out), k5⟩
                case measure => have := HK.out; simp [intOf]; omega
    · obtain rfl : k = 195 := by omega
      rw [HS.out] at HV ⊢
      have hax : bx1 (some s) = s.1 := rfl
      rw [hax]
      go_wp2
      go_ret3
      exact ⟨r, rfl, HV.out, hb⟩
end Go.Proofs.Ytggcajillncamaa
