/- Play behind each pair: values, and both walks. -/
import Derived.Test.YtpkmmelinfcdaaaPlay2
namespace Go.Proofs.Ytpkmmelinfcdaaa
open Go.RowKit Ieee
open Go.Proofs.YtpkmmelinfcdaaaW.PrintWords
set_option maxRecDepth 100000

def upOf (p : Int × Int × Nat) : Nat := upV p.1 p.2.1
/-- The play behind pair i. -/
def alo (t : List (Int × Int × Nat)) (ps : List Nat) : Nat → Nat
  | 0 => ps.getD 0 0
  | i + 1 => fadd (fmul (alo t ps i) (upOf (t.getD (i + 1) zP))) (ps.getD (i + 1) 0)
def aloL (t : List (Int × Int × Nat)) (ps : List Nat) (n : Nat) : List Nat := (List.range n).map (alo t ps)
theorem aloL_succ (t : List (Int × Int × Nat)) (ps : List Nat) (n : Nat) : aloL t ps (n + 1) = aloL t ps n ++ [alo t ps n] := by simp [aloL, List.range_succ]
theorem aloL_length (t : List (Int × Int × Nat)) (ps : List Nat) (n : Nat) : (aloL t ps n).length = n := by simp [aloL]
theorem aloL_get (t : List (Int × Int × Nat)) (ps : List Nat) {n i : Nat} (h : i < n) : (aloL t ps n).getD i 0 = alo t ps i := by simp [aloL, List.getD_eq_getElem?_getD, h]
theorem at_FR {w : World} {base : Nat} {v : Value} {xs : List Nat} (h : FR w base v xs) (n : Nat) (hn : xs.length = n) (i : Nat) (hi : i < n) :
    ∃ g c r, v = .slice (some ⟨g, 0, none⟩) n c ∧ g < w.heap.size ∧ w.cell? ⟨g, i, none⟩ = some (.float .f32 r) ∧ FV r (xs.getD i 0) := by
  subst hn
  obtain ⟨g, c, e, _, hg, _⟩ := Kd.R_form h.out (by omega)
  subst e
  obtain ⟨ce, hcl, hM, hcc, _⟩ := Kd.R_elem h.out 0 (i : Int) (by omega) (by omega)
  obtain ⟨r, rfl, hr⟩ := kf_openM hM
  have := hcc 0 _ rfl
  rw [show (i : Int).toNat * kf.sz + 0 = i from by show i * 1 + 0 = i; omega] at this
  exact ⟨g, c, r, rfl, hg, this, hr⟩
def AloQ (t : List (Int × Int × Nat)) (ps : List Nat) (w : World) (e : Ending) (w' : World) : Prop :=
  ∃ v, e = .returned v ∧ FR w' w.heap.size v (aloL t ps t.length) ∧ Below w.heap.size w w'

set_option maxHeartbeats 8000000 in
theorem along_impl (A B : Option Addr) (c c' : Nat) (t : List (Int × Int × Nat)) (ps : List Nat) (w : World) (hA : Kd.C kP w A t.length t) (hB : Kd.C kf w B ps.length ps) (hl : ps.length = t.length) (hm : t.length ≤ 1048576) :
    Calls Try.prog 38 #[.slice A t.length c, .slice B ps.length c'] w (AloQ t ps w) := by
  have HA : Hid (Kd.C kP w A t.length t) := Lib.hid hA
  have HB : Hid (Kd.C kf w B ps.length ps) := Lib.hid hB
  have HL := Lib.hid hl
  have hm2 : ps.length ≤ 1048576 := by omega
  clear hA hB hl
  go_enter Try.func38, Try.ntmps38
  go_wp2
  go_loopw [5, 11] (fun v i wr => ∃ k : Nat, k ≤ ps.length ∧ i = .int .i64 k ∧ Hid (FR wr w.heap.size v (aloL t ps k)) ∧ Below w.heap.size w wr) (fun _ i _ => ps.length - (intOf i).toNat)
  case atStart => exact ⟨0, Nat.zero_le _, rfl, Lib.hid (FR.empty (w := w.alloc (.cells #[] 25)) w.heap.size w.heap.size (heap_alloc_new w _) (Nat.le_refl _)), by (repeat (first | with_reducible exact Below.refl _ _ | with_reducible refine bset ?_ (by first | (simp; done) | (simp; omega) | omega) _ | with_reducible refine balloc ?_ _ | with_reducible refine bdrewN ?_ _ | with_reducible refine bdrew ?_ | with_reducible refine bstep ?_ (by assumption)))⟩
  case round =>
    obtain ⟨k, hk, rfl, H1, hb⟩ := hrel
    by_cases hlt : k < ps.length
    · obtain ⟨b', off', r', rfl, hbl', e0, hr'⟩ := at_kf HB.out k hlt
      have f0 := (bc hb b' (off' + k) hbl').trans e0
      have l1 : b' < wr.heap.size := Nat.lt_of_lt_of_le hbl' hb.size
      have HP := Lib.hid hr'
      have HL1 := Lib.hid (show (aloL t ps k).length ≤ 1048576 by rw [aloL_length]; omega)
      clear e0 hr'
      cases k with
      | zero =>
        simp only [Nat.add_zero] at f0
        go_wp2_with (at_builtin; (refine apF (w0 := w) (o := ⟨some 33, _, _, _, _, _⟩) rfl (.tmp 30) (.tmp 32) rfl u5 (aloL t ps 0) (alo t ps 0) (r') ?y33 ?x33 HP.out ?o33 ?b33 HL1.out ?_; (case y33 => rfl); (case x33 => go_simp); (case o33 => (with_reducible repeat (first | apply FR.alloc | apply FR.drewN | apply FR.drew)); exact H1.out); (case b33 => (repeat (first | with_reducible exact Below.refl _ _ | with_reducible refine bset ?_ (by first | (simp; done) | (simp; omega) | omega) _ | with_reducible refine balloc ?_ _ | with_reducible refine bdrewN ?_ _ | with_reducible refine bdrew ?_ | with_reducible refine bstep ?_ (by assumption)))); intro v33 w33 ho_ hb33 hg33 hat33; have HO33 := Lib.hid ho_; clear ho_ hg33 hat33))
        go_roundw
        case rel => exact ⟨1, hlt, by go_num, Lib.hid (by rw [aloL_succ]; exact HO33.out), hb33⟩
        case measure => simp [intOf]; omega
      | succ j =>
        have hjt : j + 1 < t.length := by have := HL.out; omega
        obtain ⟨b, off, p, q, x, r, rfl, hbl, c0, c1, c2, hx, hr, _⟩ := at_kP HA.out (j + 1) hjt
        have d0 := (bc hb b (off + (j + 1) * 3) hbl).trans c0
        have d1 := (bc hb b (off + (j + 1) * 3 + 1) hbl).trans c1
        have l0 : b < wr.heap.size := Nat.lt_of_lt_of_le hbl hb.size
        obtain ⟨g1, cc1, x1, rfl, hg1, e1, hx1⟩ := at_FR H1.out (j + 1) (aloL_length _ _ _) j (Nat.lt_succ_self j)
        rw [aloL_get _ _ (Nat.lt_succ_self j)] at hx1
        have HO1 := Lib.hid hx1.1
        have HUP := Lib.hid (show upV p q = upOf (t.getD (j + 1) zP) by rw [hx]; rfl)
        have hlt2 : (j : Int) + 1 < (ps.length : Int) := by omega
        have hlt3 : (j : Int) + 1 < (t.length : Int) := by omega
        have hj1 : (j : Int) < (j : Int) + 1 := by omega
        clear c0 c1 c2 hx hr hx1
        obtain ⟨wo, hwo⟩ : ∃ wo : World, wo = wr := ⟨_, rfl⟩
        subst hwo
        go_wp2
        have hw1 : IntKind.i64.wrap (j : Int) = (j : Int) := IntWalk.i64_in _ (by omega)
        have hw2 : IntKind.i64.wrap (((j + 1 : Nat) : Int) - 1) = (j : Int) := by rw [show (((j + 1 : Nat) : Int) - 1) = (j : Int) from by omega]; exact hw1
        have hw3 : IntKind.i64.wrap ((j : Int) + 1 - 1) = (j : Int) := by rw [show ((j : Int) + 1 - 1) = (j : Int) from by omega]; exact hw1
        first | refine region_drewN (DFv (upV p q)) (by kernel_rfl) (by kernel_rfl) ?_ | refine region_drew (DFv (upV p q)) (by kernel_rfl) (by kernel_rfl) ?_
        repeat (first | (refine wpRel_plain rfl (fun K hK => ?_); intro w' hw'; obtain ⟨n', rfl⟩ := hw'; go_simp; refine ⟨?_, fun v hv => ?_⟩; (go_at_call 51; refine (up_any _ _ p q _ (by go_simp) (by go_simp)).mono ?_; rintro e w'' ⟨r_, rfl, hr_, hd_⟩; exact ⟨_, rfl, ⟨r_, rfl, hr_⟩, (Drew.mk _ _).trans hd_⟩); obtain ⟨r26, rfl, h26⟩ := hv; (refine hK _ ?_; clear hK K n')) | (refine wpRel_plain (o := ⟨some 27, _, _, _, _, _⟩) rfl (fun K hK => ?_); refine relOp_fop (drewN_Drew_closed _) rfl (by first | exact .inl rfl | exact .inr (.inl rfl) | exact .inr (.inr (.inl rfl)) | exact .inr (.inr (.inr rfl))) rfl rfl (fun r27 h27 => hK _ ?_); clear hK K) | (refine wpRel_plain (o := ⟨some 29, _, _, _, _, _⟩) rfl (fun K hK => ?_); refine relOp_fop (drewN_Drew_closed _) rfl (by first | exact .inl rfl | exact .inr (.inl rfl) | exact .inr (.inr (.inl rfl)) | exact .inr (.inr (.inr rfl))) rfl rfl (fun r29 h29 => hK _ ?_); clear hK K) | (refine wpRel_plain rfl (fun K hK => ?_); intro w' hw'; obtain ⟨n', rfl⟩ := hw'; go_simp; refine ⟨Drew.mk _ _, hK _ ?_⟩; clear hK K n'))
        (refine wpRel_nil ?_; intro w' hw'; obtain ⟨nq, rfl⟩ := hw')
        have hv : FV r29 (alo t ps (j + 1)) := by rw [h27.1, HO1.out, h26.1, HUP.out, HP.out.1] at h29; exact h29
        have HV := Lib.hid hv
        clear hw1 hw2 hw3 hv h26 h27 h29 e1 hg1 d0 d1 f0
        go_wp2_with (at_builtin; go_must ((refine apF (w0 := w) (o := ⟨some 33, _, _, _, _, _⟩) rfl (.tmp 30) (.tmp 32) rfl (.slice (some ⟨g1, 0, none⟩) (j + 1) cc1) (aloL t ps (j + 1)) (alo t ps (j + 1)) r29 ?y33 ?x33 HV.out ?o33 ?b33 HL1.out ?_; (case y33 => rfl); (case x33 => go_simp); (case o33 => (with_reducible repeat (first | apply FR.alloc | apply FR.drewN | apply FR.drew)); exact H1.out); (case b33 => (repeat (first | with_reducible exact Below.refl _ _ | with_reducible refine bset ?_ (by first | (simp; done) | (simp; omega) | omega) _ | with_reducible refine balloc ?_ _ | with_reducible refine bdrewN ?_ _ | with_reducible refine bdrew ?_ | with_reducible refine bstep ?_ (by assumption)))); intro v33 w33 ho_ hb33 hg33 hat33; have HO33 := Lib.hid ho_; clear ho_ hg33 hat33)))
        go_roundw
        case rel => exact ⟨j + 1 + 1, hlt, by go_num, Lib.hid (by rw [aloL_succ]; exact HO33.out), hb33⟩
        case measure => simp [intOf]; omega
    · have hkl : k = t.length := by have := HL.out; omega
      subst hkl
      go_wp2
      go_ret
      exact ⟨_, rfl, H1.out, hb⟩
set_option maxHeartbeats 8000000 in
theorem along_spec (A B : Option Addr) (c c' : Nat) (t : List (Int × Int × Nat)) (ps : List Nat) (w : World) (hA : Kd.C kP w A t.length t) (hB : Kd.C kf w B ps.length ps) (hl : ps.length = t.length) (hm : t.length ≤ 1048576) :
    Calls Try.prog 37 #[.slice A t.length c, .slice B ps.length c'] w (AloQ t ps w) := by
  have HA : Hid (Kd.C kP w A t.length t) := Lib.hid hA
  have HB : Hid (Kd.C kf w B ps.length ps) := Lib.hid hB
  have HL := Lib.hid hl
  have hm2 : ps.length ≤ 1048576 := by omega
  clear hA hB hl
  go_enter Try.func37, Try.ntmps37
  go_wp2
  go_loopw [5, 6] (fun v i wr => ∃ k : Nat, k ≤ t.length ∧ i = .int .i64 k ∧ Hid (FR wr w.heap.size v (aloL t ps k)) ∧ Below w.heap.size w wr) (fun _ i _ => t.length - (intOf i).toNat)
  case atStart => exact ⟨0, Nat.zero_le _, rfl, Lib.hid (FR.empty (w := w.alloc (.cells #[] 25)) w.heap.size w.heap.size (heap_alloc_new w _) (Nat.le_refl _)), by (repeat (first | with_reducible exact Below.refl _ _ | with_reducible refine bset ?_ (by first | (simp; done) | (simp; omega) | omega) _ | with_reducible refine balloc ?_ _ | with_reducible refine bdrewN ?_ _ | with_reducible refine bdrew ?_ | with_reducible refine bstep ?_ (by assumption)))⟩
  case round =>
    obtain ⟨k, hk, rfl, H1, hb⟩ := hrel
    by_cases hlt : k < t.length
    · have hltp : k < ps.length := by have := HL.out; omega
      have hltp2 : (k : Int) < (ps.length : Int) := by omega
      obtain ⟨b', off', r', rfl, hbl', e0, hr'⟩ := at_kf HB.out k hltp
      have f0 := (bc hb b' (off' + k) hbl').trans e0
      have l1 : b' < wr.heap.size := Nat.lt_of_lt_of_le hbl' hb.size
      have HP := Lib.hid hr'
      have HL1 := Lib.hid (show (aloL t ps k).length ≤ 1048576 by rw [aloL_length]; omega)
      clear e0 hr'
      cases k with
      | zero =>
        simp only [Nat.add_zero] at f0
        go_wp2_with (at_builtin; (refine apF (w0 := w) (o := ⟨some 46, _, _, _, _, _⟩) rfl (.tmp 43) (.tmp 45) rfl u5 (aloL t ps 0) (alo t ps 0) (r') ?y46 ?x46 HP.out ?o46 ?b46 HL1.out ?_; (case y46 => rfl); (case x46 => go_simp); (case o46 => (with_reducible repeat (first | apply FR.alloc | apply FR.drewN | apply FR.drew)); exact H1.out); (case b46 => (repeat (first | with_reducible exact Below.refl _ _ | with_reducible refine bset ?_ (by first | (simp; done) | (simp; omega) | omega) _ | with_reducible refine balloc ?_ _ | with_reducible refine bdrewN ?_ _ | with_reducible refine bdrew ?_ | with_reducible refine bstep ?_ (by assumption)))); intro v46 w46 ho_ hb46 hg46 hat46; have HO46 := Lib.hid ho_; clear ho_ hg46 hat46))
        go_roundw
        case rel => exact ⟨1, hlt, by go_num, Lib.hid (by rw [aloL_succ]; exact HO46.out), hb46⟩
        case measure => simp [intOf]; omega
      | succ j =>
        obtain ⟨b, off, p, q, x, r, rfl, hbl, c0, c1, c2, hx, hr, _⟩ := at_kP HA.out (j + 1) hlt
        have d0 := (bc hb b (off + (j + 1) * 3) hbl).trans c0
        have d1 := (bc hb b (off + (j + 1) * 3 + 1) hbl).trans c1
        have l0 : b < wr.heap.size := Nat.lt_of_lt_of_le hbl hb.size
        obtain ⟨g1, cc1, x1, rfl, hg1, e1, hx1⟩ := at_FR H1.out (j + 1) (aloL_length _ _ _) j (Nat.lt_succ_self j)
        rw [aloL_get _ _ (Nat.lt_succ_self j)] at hx1
        have HO1 := Lib.hid hx1.1
        have HUP := Lib.hid (show upV p q = upOf (t.getD (j + 1) zP) by rw [hx]; rfl)
        have hlt2 : (j : Int) + 1 < (ps.length : Int) := by omega
        have hlt3 : (j : Int) + 1 < (t.length : Int) := by omega
        have hj1 : (j : Int) < (j : Int) + 1 := by omega
        have hj0 : (0 : Int) ≤ (j : Int) + 1 := by omega
        clear c0 c1 c2 hx hr hx1
        obtain ⟨wo, hwo⟩ : ∃ wo : World, wo = wr := ⟨_, rfl⟩
        subst hwo
        go_wp2
        have hw1 : IntKind.i64.wrap (j : Int) = (j : Int) := IntWalk.i64_in _ (by omega)
        have hw2 : IntKind.i64.wrap (((j + 1 : Nat) : Int) - 1) = (j : Int) := by rw [show (((j + 1 : Nat) : Int) - 1) = (j : Int) from by omega]; exact hw1
        have hw3 : IntKind.i64.wrap ((j : Int) + 1 - 1) = (j : Int) := by rw [show ((j : Int) + 1 - 1) = (j : Int) from by omega]; exact hw1
        first | refine region_drewN (DFv (upV p q)) (by kernel_rfl) (by kernel_rfl) ?_ | refine region_drew (DFv (upV p q)) (by kernel_rfl) (by kernel_rfl) ?_
        repeat (first | (refine wpRel_plain rfl (fun K hK => ?_); intro w' hw'; obtain ⟨n', rfl⟩ := hw'; go_simp; refine ⟨?_, fun v hv => ?_⟩; (go_at_call 50; refine (quotient_any p q _).mono ?_; rintro e w'' ⟨r_, rfl, hr_, hd_⟩; exact ⟨_, rfl, ⟨r_, rfl, hr_⟩, (Drew.mk _ _).trans hd_⟩); obtain ⟨r36, rfl, h36⟩ := hv; (refine hK _ ?_; clear hK K n')) | (refine wpRel_plain (o := ⟨some 37, _, _, _, _, _⟩) rfl (fun K hK => ?_); refine relOp_fop (drewN_Drew_closed _) rfl (by first | exact .inl rfl | exact .inr (.inl rfl) | exact .inr (.inr (.inl rfl)) | exact .inr (.inr (.inr rfl))) rfl rfl (fun r37 h37 => hK _ ?_); clear hK K) | (refine wpRel_plain (o := ⟨some 42, _, _, _, _, _⟩) rfl (fun K hK => ?_); refine relOp_fop (drewN_Drew_closed _) rfl (by first | exact .inl rfl | exact .inr (.inl rfl) | exact .inr (.inr (.inl rfl)) | exact .inr (.inr (.inr rfl))) rfl rfl (fun r42 h42 => hK _ ?_); clear hK K) | (refine wpRel_plain rfl (fun K hK => ?_); intro w' hw'; obtain ⟨n', rfl⟩ := hw'; go_simp; refine ⟨Drew.mk _ _, hK _ ?_⟩; clear hK K n'))
        (refine wpRel_nil ?_; intro w' hw'; obtain ⟨nq, rfl⟩ := hw')
        have hv : FV r42 (alo t ps (j + 1)) := by rw [h37.1, HO1.out, h36.1, HUP.out, HP.out.1] at h42; exact h42
        have HV := Lib.hid hv
        clear hw1 hw2 hw3 hv h36 h37 h42 e1 hg1 d0 d1 f0
        go_wp2_with (at_builtin; go_must ((refine apF (w0 := w) (o := ⟨some 46, _, _, _, _, _⟩) rfl (.tmp 43) (.tmp 45) rfl (.slice (some ⟨g1, 0, none⟩) (j + 1) cc1) (aloL t ps (j + 1)) (alo t ps (j + 1)) r42 ?y46 ?x46 HV.out ?o46 ?b46 HL1.out ?_; (case y46 => rfl); (case x46 => go_simp); (case o46 => (with_reducible repeat (first | apply FR.alloc | apply FR.drewN | apply FR.drew)); exact H1.out); (case b46 => (repeat (first | with_reducible exact Below.refl _ _ | with_reducible refine bset ?_ (by first | (simp; done) | (simp; omega) | omega) _ | with_reducible refine balloc ?_ _ | with_reducible refine bdrewN ?_ _ | with_reducible refine bdrew ?_ | with_reducible refine bstep ?_ (by assumption)))); intro v46 w46 ho_ hb46 hg46 hat46; have HO46 := Lib.hid ho_; clear ho_ hg46 hat46)))
        go_roundw
        case rel => exact ⟨j + 1 + 1, hlt, by go_num, Lib.hid (by rw [aloL_succ]; exact HO46.out), hb46⟩
        case measure => simp [intOf]; omega
    · have hkl : k = t.length := by omega
      subst hkl
      go_wp2
      go_ret
      exact ⟨_, rfl, H1.out, hb⟩
/-! ### the play at the end -/
def EndQ (x : Nat) (w : World) (e : Ending) (w' : World) : Prop := ∃ r, e = .returned (.float .f32 r) ∧ FV r x ∧ Below w.heap.size w w'
theorem atEnd_any (A B : Option Addr) (c c' : Nat) (t : List (Int × Int × Nat)) (ps : List Nat) (w : World) (hA : Kd.C kP w A t.length t) (hB : Kd.C kf w B ps.length ps) (hl : ps.length = t.length) (h0 : 0 < t.length) (hm : t.length ≤ 1048576) :
    Calls Try.prog 34 #[.slice A t.length c, .slice B ps.length c'] w (EndQ (alo t ps (t.length - 1)) w) := by
  have HC := Lib.hid (along_impl A B c c' t ps w hA hB hl hm)
  clear hA hB
  obtain ⟨j, hj⟩ : ∃ j, t.length = j + 1 := ⟨t.length - 1, by omega⟩
  rw [hj] at HC ⊢
  have HJ := Lib.hid hj
  have hjm : j ≤ 1048576 := by omega
  have hj1 : (j : Int) < (j : Int) + 1 := by omega
  clear hj hm h0 hl
  go_enter Try.func34, Try.ntmps34
  go_wp2_with (go_at_call 38; refine (HC.out).mono ?_; rintro e w1 ⟨v, rfl, h1, hb1⟩; rw [HJ.out] at h1; obtain ⟨g1, cc1, x1, rfl, hg1, e1, hx1⟩ := at_FR h1 (j + 1) (aloL_length _ _ _) j (Nat.lt_succ_self j); rw [aloL_get _ _ (Nat.lt_succ_self j)] at hx1; have HX := Lib.hid hx1; clear h1 hx1)
  go_ret
  exact ⟨x1, rfl, HX.out, hb1⟩
theorem l06Last_any (A B : Option Addr) (c c' : Nat) (t : List (Int × Int × Nat)) (ps : List Nat) (w : World) (hA : Kd.C kP w A t.length t) (hB : Kd.C kf w B ps.length ps) (hl : ps.length = t.length) (h0 : 0 < t.length) (hm : t.length ≤ 1048576) :
    Calls Try.prog 31 #[.slice A t.length c, .slice B ps.length c'] w (EndQ (alo t ps (t.length - 1)) w) := by
  have HC := Lib.hid (along_spec A B c c' t ps w hA hB hl hm)
  clear hA hB
  obtain ⟨j, hj⟩ : ∃ j, t.length = j + 1 := ⟨t.length - 1, by omega⟩
  rw [hj] at HC ⊢
  have HJ := Lib.hid hj
  have hjm : j ≤ 1048576 := by omega
  have hj1 : (j : Int) < (j : Int) + 1 := by omega
  clear hj hm h0 hl
  go_enter Try.func31, Try.ntmps31
  go_wp2_with (go_at_call 37; refine (HC.out).mono ?_; rintro e w1 ⟨v, rfl, h1, hb1⟩; rw [HJ.out] at h1; obtain ⟨g1, cc1, x1, rfl, hg1, e1, hx1⟩ := at_FR h1 (j + 1) (aloL_length _ _ _) j (Nat.lt_succ_self j); rw [aloL_get _ _ (Nat.lt_succ_self j)] at hx1; have HX := Lib.hid hx1; clear h1 hx1)
  go_ret
  exact ⟨x1, rfl, HX.out, hb1⟩
end Go.Proofs.Ytpkmmelinfcdaaa
