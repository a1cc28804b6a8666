/- The widest step between factors: both sides. The law FnExactWidestStep: the walk. -/
import Derived.Test.YtggcajillncamaaFac
import Derived.Test.YtggcajillncamaaWstP
import Derived.IntWalk
namespace Go.Proofs.Ytggcajillncamaa
open Go.RowKit Ieee
open Go.Proofs.YtggcajillncamaaW.PrintWords
set_option maxRecDepth 100000
attribute [local irreducible] wpRel
/-- What the widest step comes to. -/
def wsO (l : List Int) : Nat × Nat × Int :=
  if boxOk l = true then ((allF l).getD ((wid (allF l) ((allF l).length - 2)).1 - 1) 0, (wid (allF l) ((allF l).length - 2)).2, 0) else (0, 0, 1)
def WsQ (l : List Int) (w : World) (e : Ending) (w' : World) : Prop :=
  e = .returned (.tuple #[.float .f32 (wsO l).1, .float .f32 (wsO l).2.1, .int .i64 (wsO l).2.2]) ∧ Below w.heap.size w w' ∧ (wsO l).1 < 4294967296 ∧ (wsO l).2.1 < 4294967296
theorem at_nn1 {w : World} {a : Addr} {n : Nat} {l : List Nat} (h : Kd.C kf w (some a) n l) (hn : allNn l) (hl : l.length = n) (i : Nat) (hi : i < n) (b off : Nat) (ha : a = ⟨b, off, none⟩) :
    w.cell? ⟨b, off + i, none⟩ = some (.float .f32 (l.getD i 0)) := by
  obtain ⟨b', off', e, _, c, _⟩ := at_nn h hn hl i hi
  subst ha
  injection e with e
  injection e with e1 e2
  subst e1 e2
  exact c
theorem wid_end {F : List Nat} {k : Nat} (h : ¬ k + 2 < F.length) (h' : k + 2 ≤ F.length) : F.length - 2 = k := by omega
theorem nn_lt32 {x : Nat} (h : nn x) : x < 4294967296 := by unfold nn at h; omega
set_option maxHeartbeats 4000000 in
theorem widest_spec (A : Option Addr) (c : Nat) (l : List Int) (w : World) (hA : Kd.C ki16 w A l.length l) (hm : l.length ≤ 1048576) :
    Calls Try.prog 10 #[.slice A l.length c] w (WsQ l w) := by
  unfold WsQ
  cases hk : boxOk l
  · have HO := Lib.hid (show Calls Try.prog 24 #[.slice A l.length c] w fun e w' => e = .returned (.bool false) ∧ Below w.heap.size w w' by have := l05Ok_any A c l w hA (by omega); rw [hk] at this; exact this)
    have e1 : wsO l = (0, 0, 1) := by simp [wsO, hk]
    rw [e1]
    clear hA hk e1
    go_enter Try.func10, Try.ntmps10
    go_wp2_with (go_at_call 24; refine (HO.out).mono ?_; rintro e w1 ⟨rfl, hb1⟩)
    go_ret3
    exact ⟨rfl, hb1, by decide, by decide⟩
  · obtain ⟨hw, h2, h24⟩ := allW_of hk
    have HO := Lib.hid (show Calls Try.prog 24 #[.slice A l.length c] w fun e w' => e = .returned (.bool true) ∧ Below w.heap.size w w' by have := l05Ok_any A c l w hA (by omega); rw [hk] at this; exact this)
    have HF := Lib.hid (fun w1 (h : Below w.heap.size w w1) => l05All_any A c l w1 (Kd.C_below hA h) h24 hw)
    have e1 : wsO l = ((allF l).getD ((wid (allF l) ((allF l).length - 2)).1 - 1) 0, (wid (allF l) ((allF l).length - 2)).2, 0) := by simp [wsO, hk]
    have HN := Lib.hid (allF_nn hw)
    have HP := Lib.hid (allF_pos hw)
    have HS := Lib.hid (allF_asc hw)
    have h22 := allF_two hk
    have h576 := allF_len (l := l) h24
    rw [e1]
    clear hA hk hw e1
    obtain ⟨F, hF⟩ : ∃ F, allF l = F := ⟨_, rfl⟩
    rw [hF] at HF HN HP HS h22 h576 ⊢
    clear hF
    obtain ⟨lst, hlst⟩ : ∃ lst, wid F (F.length - 2) = lst := ⟨_, rfl⟩
    rw [hlst]
    have HL := Lib.hid hlst
    clear hlst
    go_enter Try.func10, Try.ntmps10
    go_wp2_with fail
    go_at_call 24
    refine (HO.out).mono ?_
    rintro e w1 ⟨rfl, hb1⟩
    go_wp2_with fail
    go_at_call 25
    refine (HF.out _ hb1).mono ?_
    rintro e w2 ⟨v, rfl, hr, hb2⟩
    obtain ⟨A2, c2, hv2, _, hC2⟩ := RW.reads hr
    subst hv2
    have HC := Lib.hid hC2
    have k2 := bstep hb1 hb2
    clear hr hC2 HO HF hb1 hb2
    obtain ⟨b, off, rfl, hbl, c0, hn0⟩ := at_nn HC.out HN.out rfl 0 (by omega)
    have c1 := at_nn1 HC.out HN.out rfl 1 (by omega) b off rfl
    have hn1 : nn (F.getD 1 0) := HN.out _ (getD_mem (by omega))
    have HST := Lib.hid (show fdiv (F.getD 1 0) (F.getD 0 0) = stp F 1 from rfl)
    have HSN := Lib.hid (stp_nn HP.out (k := 1) (by omega) (by omega))
    simp only [Nat.add_zero] at c0
    obtain ⟨x0, hx0⟩ : ∃ x, F.getD 0 0 = x := ⟨_, rfl⟩
    obtain ⟨x1, hx1⟩ : ∃ x, F.getD 1 0 = x := ⟨_, rfl⟩
    rw [hx0] at c0 hn0 HST
    rw [hx1] at c1 hn1 HST
    clear hx0 hx1
    have hl1 : (1 : Int) < (F.length : Int) := by omega
    have hl0 : (0 : Int) < (F.length : Int) := by omega
    have hl0n : 0 < F.length := by omega
    have hne : F ≠ [] := by rintro rfl; simp at h22
    go_wp2
    first | refine region_drewN (DIs (.bool true)) (by kernel_rfl) (by kernel_rfl) ?_ | refine region_drew (DIs (.bool true)) (by kernel_rfl) (by kernel_rfl) ?_
    repeat (first | (refine wpRel_plain (o := ⟨some 21, _, _, _, _, _⟩) rfl (fun K hK => ?_); refine relOp_fop (drewN_Drew_closed _) rfl (by first | exact .inl rfl | exact .inr (.inl rfl) | exact .inr (.inr (.inl rfl)) | exact .inr (.inr (.inr rfl))) rfl rfl (fun r21 h21 => hK _ ?_); clear hK K) | (refine wpRel_plain rfl (fun K hK => ?_); intro w' hw'; obtain ⟨n', rfl⟩ := hw'; go_simp; refine ⟨Drew.mk _ _, hK _ ?_⟩; clear hK K n'))
    (refine wpRel_nil ?_; intro w' hw'; obtain ⟨nq, rfl⟩ := hw')
    obtain rfl : r21 = stp F 1 := FV_nnS (by rw [nn_cn hn0, nn_cn hn1] at h21; rw [← HST.out]; exact h21) HSN.out
    have HC3 := Lib.hid (Kd.C_below HC.out (bdrewN (Below.refl _ _) nq))
    have k3 := bdrewN k2 nq
    obtain ⟨w3, hw3⟩ : ∃ w3 : World, w2.drewN nq = w3 := ⟨_, rfl⟩
    rw [hw3] at HC3 k3 ⊢
    clear hw3 k2 HC c0 c1 h21 hbl hl1 hl0 hl0n hne
    go_wp2
    go_loopw [6, 7, 8, 9] (fun at_ mo i _ wr => ∃ k : Nat, k + 2 ≤ F.length ∧ i = .int .i64 ((k + 2 : Nat) : Int) ∧ at_ = .int .i64 ((wid F k).1 : Nat) ∧ mo = .float .f32 (wid F k).2 ∧ Hid (Kd.C kf wr (some ⟨b, off, none⟩) F.length F) ∧ Below w.heap.size w wr) (fun _ _ i _ _ => F.length - (intOf i).toNat)
    case atStart => exact ⟨0, h22, rfl, rfl, rfl, HC3, k3⟩
    case round =>
      clear HC3 k3 h22
      obtain ⟨k, hk, rfl, rfl, rfl, HC, hb⟩ := hrel
      have hwl := wid_le F k
      by_cases hlt : k + 2 < F.length
      · obtain ⟨b', off', e1, hbl, c0, hn0⟩ := at_nn HC.out HN.out rfl (k + 1) (by omega)
        injection e1 with e1
        injection e1 with e1 e2
        subst e1 e2
        have c1 := at_nn1 HC.out HN.out rfl (k + 2) hlt b off rfl
        have hn1 : nn (F.getD (k + 2) 0) := HN.out _ (getD_mem hlt)
        have HST := Lib.hid (show fdiv (F.getD (k + 2) 0) (F.getD (k + 1) 0) = stp F (k + 2) from rfl)
        have HSN := Lib.hid (stp_nn HP.out (k := k + 2) (by omega) hlt)
        have HWD := Lib.hid (show wid F (k + 1) = if flt (wid F k).2 (stp F (k + 2)) = true then (k + 2, stp F (k + 2)) else wid F k from rfl)
        obtain ⟨p, hp⟩ : ∃ p, k + 2 = p := ⟨_, rfl⟩
        obtain ⟨q, hq⟩ : ∃ q, k + 1 = q := ⟨_, rfl⟩
        have hpk : p + 1 = k + 1 + 2 := by omega
        obtain ⟨x0, hx0⟩ : ∃ x, F.getD (k + 1) 0 = x := ⟨_, rfl⟩
        obtain ⟨x1, hx1⟩ : ∃ x, F.getD (k + 2) 0 = x := ⟨_, rfl⟩
        obtain ⟨own, ho⟩ : ∃ x, stp F (k + 2) = x := ⟨_, rfl⟩
        obtain ⟨old, hold⟩ : ∃ x, wid F k = x := ⟨_, rfl⟩
        rw [hx0] at c0 hn0 HST
        rw [hx1] at c1 hn1 HST
        rw [ho] at HST HSN HWD
        rw [hold] at HWD hwl ⊢
        rw [hp] at hk hlt c1 HWD ⊢
        rw [hq] at c0
        obtain rfl : p = q + 1 := by omega
        clear hx0 hx1 ho hold
        obtain ⟨m, t⟩ := old
        dsimp only at hwl HWD ⊢
        have hl1 : (q : Int) + 1 < (F.length : Int) := by omega
        have hl0 : (q : Int) < (F.length : Int) := by omega
        have hp0 : (0 : Int) ≤ (q : Int) + 1 := by omega
        have hq0 : (0 : Int) ≤ (q : Int) := by omega
        have hwp : IntKind.i64.wrap ((q : Int) + 1 - 1) = (q : Int) := by rw [show ((q : Int) + 1 - 1) = (q : Int) from by omega]; exact IntWalk.i64_in _ (by omega)
        have hwp2 : IntKind.i64.wrap (((q + 1 : Nat) : Int) - 1) = (q : Int) := by rw [show (((q + 1 : Nat) : Int) - 1) = (q : Int) from by omega]; exact IntWalk.i64_in _ (by omega)
        have hwq : IntKind.i64.wrap (q : Int) = (q : Int) := IntWalk.i64_in _ (by omega)
        obtain ⟨wo, hwo⟩ : ∃ wo : World, wo = wr := ⟨_, rfl⟩
        subst hwo
        go_wp2
        first | refine region_drewN (DIs (.bool true)) (by kernel_rfl) (by kernel_rfl) ?_ | refine region_drew (DIs (.bool true)) (by kernel_rfl) (by kernel_rfl) ?_
        repeat (first | (refine wpRel_plain (o := ⟨some 37, _, _, _, _, _⟩) rfl (fun K hK => ?_); refine relOp_fop (drewN_Drew_closed _) rfl (by first | exact .inl rfl | exact .inr (.inl rfl) | exact .inr (.inr (.inl rfl)) | exact .inr (.inr (.inr rfl))) rfl rfl (fun r37 h37 => hK _ ?_); clear hK K) | (refine wpRel_plain rfl (fun K hK => ?_); intro w' hw'; obtain ⟨n', rfl⟩ := hw'; go_simp; refine ⟨Drew.mk _ _, hK _ ?_⟩; clear hK K n'))
        (refine wpRel_nil ?_; intro w' hw'; obtain ⟨nq, rfl⟩ := hw')
        obtain rfl : r37 = own := FV_nnS (by rw [nn_cn hn0, nn_cn hn1] at h37; rw [← HST.out]; exact h37) HSN.out
        have HC3 := Lib.hid (Kd.C_below HC.out (bdrewN (Below.refl _ _) nq))
        have k3 := bdrewN hb nq
        obtain ⟨w3, hw3⟩ : ∃ w3 : World, wo.drewN nq = w3 := ⟨_, rfl⟩
        rw [hw3] at HC3 k3 ⊢
        clear hw3 hb HC c0 c1 h37 hbl
        cases hf : flt t r37
        · have e5 : wid F (k + 1) = (m, t) := by rw [HWD.out, if_neg (by rw [hf]; decide)]
          have HE5 := Lib.hid e5
          clear e5 hl0 hp0 hq0 hwp hwp2 hwq
          go_wp2
          go_roundw
          case rel => exact ⟨k + 1, by omega, by rw [← hpk]; go_num, by rw [HE5.out], by rw [HE5.out], HC3, k3⟩
          case measure => simp [intOf]; omega
        · have e5 : wid F (k + 1) = (q + 1, r37) := by rw [HWD.out, if_pos hf]
          have HE5 := Lib.hid e5
          clear e5 hl0 hp0 hq0 hwp hwp2 hwq
          go_wp2
          go_roundw
          case rel => exact ⟨k + 1, by omega, by rw [← hpk]; go_num, by rw [HE5.out]; rfl, by rw [HE5.out], HC3, k3⟩
          case measure => simp [intOf]; omega
      · have hkl : F.length - 2 = k := wid_end hlt hk
        rw [hkl] at HL
        have hwn := wid_nn HP.out k (by omega)
        rw [HL.out] at hwl hwn
        rw [HL.out]
        clear HL
        obtain ⟨m, t⟩ := lst
        dsimp only at hwl hwn
        dsimp only
        obtain ⟨q, rfl⟩ : ∃ q, m = q + 1 := ⟨m - 1, by omega⟩
        obtain ⟨b', off', e1, hbl, c0, hn0⟩ := at_nn HC.out HN.out rfl q (by omega)
        injection e1 with e1
        injection e1 with e1 e2
        subst e1 e2
        obtain ⟨x0, hx0⟩ : ∃ x, F.getD q 0 = x := ⟨_, rfl⟩
        rw [hx0] at c0 hn0
        have HX0 := Lib.hid hx0
        have hlq : (q : Int) < (F.length : Int) := by omega
        have hq0 : (0 : Int) ≤ (q : Int) := by omega
        have hwp : ((q + 1 : Nat) : Int) - 1 = (q : Int) := by omega
        have hwp2 : (q : Int) + 1 - 1 = (q : Int) := by omega
        have hwq : IntKind.i64.wrap (q : Int) = (q : Int) := IntWalk.i64_in _ (by omega)
        have hge : ¬ (((k + 2 : Nat) : Int) < (F.length : Int)) := by omega
        clear hx0
        obtain ⟨p, hp⟩ : ∃ p, k + 2 = p := ⟨_, rfl⟩
        rw [hp] at hge ⊢
        obtain ⟨wo, hwo⟩ : ∃ wo : World, wo = wr := ⟨_, rfl⟩
        subst hwo
        go_wp2
        go_ret3
        have e9 : F.getD (q + 1 - 1) 0 = x0 := HX0.out
        exact ⟨by rw [← e9]; rfl, hb, (show F.getD (q + 1 - 1) 0 < _ from by rw [e9]; exact nn_lt32 hn0), nn_lt32 hwn⟩
/-- The least factor of the widest step so far and its size, ahead of place p. -/
def wlo (F : List Nat) (p : Nat) : Nat × Nat := if p = 1 then (F.getD 0 0, 0) else (F.getD ((wid F (p - 2)).1 - 1) 0, (wid F (p - 2)).2)
theorem wlo_step {F : List Nat} (h1 : asc F) (h2 : allPos F) {q : Nat} (hq : q + 1 < F.length) :
    wlo F (q + 2) = if flt (wlo F (q + 1)).2 (stp F (q + 1)) = true then (F.getD q 0, stp F (q + 1)) else wlo F (q + 1) := by
  match q, hq with
  | 0, hq =>
    have h3 := stp_gt h1 h2 (k := 1) (by omega) hq
    have h4 := stp_nn h2 (k := 1) (by omega) hq
    have e : flt 0 (stp F 1) = true := by rw [nn_flt (show nn 0 from Nat.zero_le _) h4]; exact decide_eq_true (by omega)
    show (F.getD (1 - 1) 0, stp F 1) = if flt 0 (stp F 1) = true then _ else _
    rw [if_pos e]
  | k + 1, hq =>
    show (F.getD ((wid F (k + 1)).1 - 1) 0, (wid F (k + 1)).2) = if flt (wid F k).2 (stp F (k + 2)) = true then (F.getD (k + 1) 0, stp F (k + 2)) else (F.getD ((wid F k).1 - 1) 0, (wid F k).2)
    rw [wid]
    split <;> rfl
theorem wlo_end {F : List Nat} (h : 2 ≤ F.length) : wlo F F.length = (F.getD ((wid F (F.length - 2)).1 - 1) 0, (wid F (F.length - 2)).2) := by
  unfold wlo
  rw [if_neg (by omega)]
theorem wlo_nn {F : List Nat} (h0 : allNn F) (h2 : allPos F) {p : Nat} (h1 : 1 ≤ p) (hp : p ≤ F.length) (hF : 2 ≤ F.length) : nn (wlo F p).1 ∧ nn (wlo F p).2 := by
  unfold wlo
  split
  · exact ⟨h0 _ (getD_mem (by omega)), Nat.zero_le _⟩
  · have := wid_le F (p - 2)
    exact ⟨h0 _ (getD_mem (by omega)), wid_nn h2 _ (by omega)⟩
set_option maxHeartbeats 4000000 in
theorem widest_impl (A : Option Addr) (c : Nat) (l : List Int) (w : World) (hA : Kd.C ki16 w A l.length l) (hm : l.length ≤ 1048576) :
    Calls Try.prog 9 #[.slice A l.length c] w (WsQ l w) := by
  unfold WsQ
  cases hk : boxOk l
  · have HO := Lib.hid (show Calls Try.prog 22 #[.slice A l.length c] w fun e w' => e = .returned (.bool false) ∧ w = w' by have := validBox_impl A c l w hA (by omega); rw [hk] at this; exact this)
    have e1 : wsO l = (0, 0, 1) := by simp [wsO, hk]
    rw [e1]
    clear hA hk e1
    go_enter Try.func9, Try.ntmps9
    go_wp2_with (go_at_call 22; refine (HO.out).mono ?_; rintro e w1 ⟨rfl, rfl⟩)
    go_ret3
    exact ⟨rfl, Below.refl _ _, by decide, by decide⟩
  · obtain ⟨hw, h2, h24⟩ := allW_of hk
    have HO := Lib.hid (show Calls Try.prog 22 #[.slice A l.length c] w fun e w' => e = .returned (.bool true) ∧ w = w' by have := validBox_impl A c l w hA (by omega); rw [hk] at this; exact this)
    have HF := Lib.hid (factors_any A c l w hA h2 h24 hw)
    have e1 : wsO l = ((allF l).getD ((wid (allF l) ((allF l).length - 2)).1 - 1) 0, (wid (allF l) ((allF l).length - 2)).2, 0) := by simp [wsO, hk]
    have HN := Lib.hid (allF_nn hw)
    have HP := Lib.hid (allF_pos hw)
    have HS := Lib.hid (allF_asc hw)
    have h22 := allF_two hk
    have h576 := allF_len (l := l) h24
    rw [e1]
    clear hA hk hw e1
    obtain ⟨F, hF⟩ : ∃ F, allF l = F := ⟨_, rfl⟩
    rw [hF] at HF HN HP HS h22 h576 ⊢
    clear hF
    have HE := wlo_end h22
    obtain ⟨lst, hlst⟩ : ∃ lst, (F.getD ((wid F (F.length - 2)).1 - 1) 0, (wid F (F.length - 2)).2) = lst := ⟨_, rfl⟩
    have hl1 : F.getD ((wid F (F.length - 2)).1 - 1) 0 = lst.1 := by rw [← hlst]
    have hl2 : (wid F (F.length - 2)).2 = lst.2 := by rw [← hlst]
    rw [hl1, hl2]
    rw [hlst] at HE
    have HL := Lib.hid HE
    clear hlst hl1 hl2 HE
    go_enter Try.func9, Try.ntmps9
    go_wp2_with fail
    go_at_call 22
    refine (HO.out).mono ?_
    rintro e w1 ⟨rfl, rfl⟩
    go_wp2_with fail
    go_at_call 23
    refine (HF.out).mono ?_
    rintro e w2 ⟨v, rfl, hr, hb2⟩
    obtain ⟨A2, c2, hv2, _, hC2⟩ := RW.reads hr
    subst hv2
    have HC := Lib.hid hC2
    clear hr hC2 HO HF
    obtain ⟨b, off, rfl, hbl, c0, hn0⟩ := at_nn HC.out HN.out rfl 0 (by omega)
    simp only [Nat.add_zero] at c0
    obtain ⟨x0, hx0⟩ : ∃ x, F.getD 0 0 = x := ⟨_, rfl⟩
    rw [hx0] at c0
    have HX0 := Lib.hid hx0
    clear hx0 hn0
    have hl0 : (0 : Int) < (F.length : Int) := by omega
    have hl0n : 0 < F.length := by omega
    have hne : F ≠ [] := by rintro rfl; simp at h22
    go_wp2
    clear hl0 hl0n hne c0 hbl
    go_loopw [6, 7, 8, 9] (fun lo mo i _ wr => ∃ q : Nat, q + 1 ≤ F.length ∧ i = .int .i64 ((q + 1 : Nat) : Int) ∧ lo = .float .f32 (wlo F (q + 1)).1 ∧ mo = .float .f32 (wlo F (q + 1)).2 ∧ Hid (Kd.C kf wr (some ⟨b, off, none⟩) F.length F) ∧ Below w.heap.size w wr) (fun _ _ i _ _ => F.length - (intOf i).toNat)
    case atStart => exact ⟨0, by omega, rfl, by rw [← HX0.out]; rfl, rfl, HC, hb2⟩
    case round =>
      clear HC hb2
      obtain ⟨q, hk, rfl, rfl, rfl, HC, hb⟩ := hrel
      have hnn := wlo_nn HN.out HP.out (show 1 ≤ q + 1 by omega) hk h22
      by_cases hlt : q + 1 < F.length
      · obtain ⟨b', off', e1, hbl, c0, hn0⟩ := at_nn HC.out HN.out rfl q (by omega)
        injection e1 with e1
        injection e1 with e1 e2
        subst e1 e2
        have c1 := at_nn1 HC.out HN.out rfl (q + 1) hlt b off rfl
        have hn1 : nn (F.getD (q + 1) 0) := HN.out _ (getD_mem hlt)
        have HST := Lib.hid (show fdiv (F.getD (q + 1) 0) (F.getD q 0) = stp F (q + 1) from rfl)
        have HSN := Lib.hid (stp_nn HP.out (k := q + 1) (by omega) hlt)
        have HWD := Lib.hid (wlo_step HS.out HP.out hlt)
        obtain ⟨x0, hx0⟩ : ∃ x, F.getD q 0 = x := ⟨_, rfl⟩
        obtain ⟨x1, hx1⟩ : ∃ x, F.getD (q + 1) 0 = x := ⟨_, rfl⟩
        obtain ⟨own, ho⟩ : ∃ x, stp F (q + 1) = x := ⟨_, rfl⟩
        obtain ⟨old, hold⟩ : ∃ x, wlo F (q + 1) = x := ⟨_, rfl⟩
        rw [hx0] at c0 hn0 HST HWD
        rw [hx1] at c1 hn1 HST
        rw [ho] at HST HSN HWD
        rw [hold] at HWD hnn ⊢
        have HX := Lib.hid hx0
        clear hx0 hx1 ho hold
        obtain ⟨m, t⟩ := old
        dsimp only at hnn HWD ⊢
        have hl1 : (q : Int) + 1 < (F.length : Int) := by omega
        have hl0 : (q : Int) < (F.length : Int) := by omega
        have hp0 : (0 : Int) ≤ (q : Int) + 1 := by omega
        have hq0 : (0 : Int) ≤ (q : Int) := by omega
        have hwp : IntKind.i64.wrap ((q : Int) + 1 - 1) = (q : Int) := by rw [show ((q : Int) + 1 - 1) = (q : Int) from by omega]; exact IntWalk.i64_in _ (by omega)
        have hwp2 : IntKind.i64.wrap (((q + 1 : Nat) : Int) - 1) = (q : Int) := by rw [show (((q + 1 : Nat) : Int) - 1) = (q : Int) from by omega]; exact IntWalk.i64_in _ (by omega)
        have hwq : IntKind.i64.wrap (q : Int) = (q : Int) := IntWalk.i64_in _ (by omega)
        obtain ⟨wo, hwo⟩ : ∃ wo : World, wo = wr := ⟨_, rfl⟩
        subst hwo
        go_wp2
        first | refine region_drewN (DIs (.bool true)) (by kernel_rfl) (by kernel_rfl) ?_ | refine region_drew (DIs (.bool true)) (by kernel_rfl) (by kernel_rfl) ?_
        repeat (first | (refine wpRel_plain (o := ⟨some 33, _, _, _, _, _⟩) rfl (fun K hK => ?_); refine relOp_fop (drewN_Drew_closed _) rfl (by first | exact .inl rfl | exact .inr (.inl rfl) | exact .inr (.inr (.inl rfl)) | exact .inr (.inr (.inr rfl))) rfl rfl (fun r33 h33 => hK _ ?_); clear hK K) | (refine wpRel_plain rfl (fun K hK => ?_); intro w' hw'; obtain ⟨n', rfl⟩ := hw'; go_simp; refine ⟨Drew.mk _ _, hK _ ?_⟩; clear hK K n'))
        (refine wpRel_nil ?_; intro w' hw'; obtain ⟨nq, rfl⟩ := hw')
        obtain rfl : r33 = own := FV_nnS (by rw [nn_cn hn0, nn_cn hn1] at h33; rw [← HST.out]; exact h33) HSN.out
        have HC3 := Lib.hid (Kd.C_below HC.out (bdrewN (Below.refl _ _) nq))
        have c3 := at_nn1 HC3.out HN.out rfl q (by omega) b off rfl
        have k3 := bdrewN hb nq
        obtain ⟨w3, hw3⟩ : ∃ w3 : World, wo.drewN nq = w3 := ⟨_, rfl⟩
        rw [HX.out] at c3
        rw [hw3] at HC3 k3 c3 ⊢
        have hbl3 : b < w3.heap.size := by rw [← hw3]; exact hbl
        clear hw3 hb HC c1 h33 hbl
        cases hf : flt t r33
        · have e5 : wlo F (q + 2) = (m, t) := by rw [HWD.out, if_neg (by rw [hf]; decide)]
          have HE5 := Lib.hid e5
          clear e5 hl0 hp0 hq0 hwp hwp2 hwq c3
          go_wp2
          go_roundw
          case rel => exact ⟨q + 1, by omega, by go_num, by rw [HE5.out], by rw [HE5.out], HC3, k3⟩
          case measure => simp [intOf]; omega
        · have e5 : wlo F (q + 2) = (x0, r33) := by rw [HWD.out, if_pos hf]
          have HE5 := Lib.hid e5
          clear e5
          go_wp2
          go_roundw
          case rel => exact ⟨q + 1, by omega, by go_num, by rw [HE5.out], by rw [HE5.out], HC3, k3⟩
          case measure => simp [intOf]; omega
      · have hkl : F.length = q + 1 := by omega
        have hE := HL.out
        rw [hkl] at hE
        rw [hE] at hnn ⊢
        have hge : ¬ ((q : Int) + 1 < (F.length : Int)) := by omega
        clear hE hkl
        go_wp2
        go_ret3
        exact ⟨rfl, hb, nn_lt32 hnn.1, nn_lt32 hnn.2⟩
end Go.Proofs.Ytggcajillncamaa
namespace Go.Proofs.Ytggcajillncamaa
open Go.RowKit Ieee
open Go.Proofs.YtggcajillncamaaW.PrintWords
set_option maxRecDepth 100000
attribute [local irreducible] wpRel
/-- A widening behind a guard that holds. -/
theorem wpList_conv64h {P : Program} {ops : Array Oper} {rest : List Oper} {a : Act} {w : World} {Q : Exit → Act → World → Prop} {o : Oper} (hw : Region.wanted o (yielded ops a.tmps) = true)
    {src dst : TypeId} {x : Operand} (ho : o.op = .convert src dst x) (hs : (P.underlying src).isSome = true) (hd : P.underlying dst = some (.float .f64))
    {b : Nat} (hx : a.eval x = .float .f32 b)
    (h : ∀ r n, FV6 r (widen (cn b)) → wpList P ops Q rest (a.put o.dst (.float .f64 r)) (w.drewN n)) : wpList P ops Q (o :: rest) a w := by
  refine wpList_step fun K hK => ?_
  rw [if_pos hw]
  obtain ⟨r, n, hr, hv⟩ := run_conv64 (P := P) w src dst b hs hd
  have hh := hK _ _ (h r n hv)
  unfold Oper.wp execOp
  simp only [ho, hx, Sem.run_bind, hr, Result.andThen_ok, Sem.run_pure, Oper.upon]
  exact hh
end Go.Proofs.Ytggcajillncamaa
