/- Rows of pairs compared and marked; rows of floats copied. -/
import Derived.Test.YtpkmmelinfcdaaaPair
namespace Go.Proofs.Ytpkmmelinfcdaaa
open Go.RowKit Ieee
open Go.Proofs.YtpkmmelinfcdaaaW.PrintWords
set_option maxRecDepth 100000

set_option maxHeartbeats 1000000 in
theorem eqPair_any (a b : Int) (r r' : Nat) (h0 : cn r = cn r') (w : World) :
    Calls Try.prog 35 #[.agg #[.int .i16 a, .int .i16 b, .float .f32 r], .agg #[.int .i16 a, .int .i16 b, .float .f32 r']] w fun e w' => e = .returned (.bool true) ∧ Below w.heap.size w w' := by
  have HX : Hid (cn r = cn r') := h0
  clear h0
  go_enter Try.func35, Try.ntmps35
  go_wp2_with (first | (refine wpList_conv64 (o := ⟨some 17, _, _, _, _, _⟩) rfl rfl (by kernel_rfl) Try.underlying33 rfl ?_; intro r17 n17 h17) | (refine wpList_conv64 (o := ⟨some 20, _, _, _, _, _⟩) rfl rfl (by kernel_rfl) Try.underlying33 rfl ?_; intro r20 n20 h20) | (go_at_call 13; refine (sameFloat_any _ _ h17.2 (wide_same' HX.out h17 h20) _).mono ?_; rintro e w' ⟨rfl, rfl⟩))
  all_goals (go_ret; refine ⟨by simp, ?_⟩)
  all_goals (repeat (first | with_reducible exact Below.refl _ _ | with_reducible refine bset ?_ (by first | (simp; done) | (simp; omega) | omega) _ | with_reducible refine balloc ?_ _ | with_reducible refine bdrewN ?_ _ | with_reducible refine bdrew ?_ | with_reducible refine bstep ?_ (by assumption)))

set_option maxHeartbeats 2000000 in
theorem eqTrain_any (A B : Option Addr) (c c' : Nat) (l : List (Int × Int × Nat)) (w : World) (hA : Kd.C kP w A l.length l) (hB : Kd.C kP w B l.length l) (hm : l.length ≤ 1048576) :
    Calls Try.prog 14 #[.slice A l.length c, .slice B l.length c'] w fun e w' => e = .returned (.bool true) ∧ Below w.heap.size w w' := by
  have HA : Hid (Kd.C kP w A l.length l) := Lib.hid hA
  have HB : Hid (Kd.C kP w B l.length l) := Lib.hid hB
  clear hA hB
  go_enter Try.func14, Try.ntmps14
  go_wp2
  go_loopw [5] (fun i wr => ∃ k : Nat, k ≤ l.length ∧ i = .int .i64 k ∧ Below w.heap.size w wr) (fun i _ => l.length - (intOf i).toNat)
  case atStart => exact ⟨0, Nat.zero_le _, rfl, Below.refl _ _⟩
  case round =>
    obtain ⟨k, hk, rfl, hb⟩ := hrel
    by_cases hlt : k < l.length
    · obtain ⟨b, off, p, q, x, r, rfl, hbl, c0, c1, c2, hx, hr, _⟩ := at_kP HA.out k hlt
      obtain ⟨b', off', p', q', x', r', rfl, hbl', c0', c1', c2', hx', hr', _⟩ := at_kP HB.out k hlt
      rw [hx] at hx'
      cases hx'
      have d0 := (bc hb b (off + k * 3) hbl).trans c0
      have d1 := (bc hb b (off + k * 3 + 1) hbl).trans c1
      have d2 := (bc hb b (off + k * 3 + 2) hbl).trans c2
      have d0' := (bc hb b' (off' + k * 3) hbl').trans c0'
      have d1' := (bc hb b' (off' + k * 3 + 1) hbl').trans c1'
      have d2' := (bc hb b' (off' + k * 3 + 2) hbl').trans c2'
      have l0 : b < wr.heap.size := Nat.lt_of_lt_of_le hbl hb.size
      have l1 : b' < wr.heap.size := Nat.lt_of_lt_of_le hbl' hb.size
      clear c0 c1 c2 c0' c1' c2' hx
      have E0 := Lib.hid (show cn r = cn r' from hr.1.trans hr'.1.symm)
      clear hr hr'
      obtain ⟨wo, hwo⟩ : ∃ wo : World, wo = wr := ⟨_, rfl⟩
      subst hwo
      go_wp2
      refine region_below (DIs (.bool true)) (by kernel_rfl) (by kernel_rfl) ?_
      repeat (first | (refine wpRel_plain rfl (fun K hK => ?_); intro w' hb'; have hc' := bc (Bel.out hb'); go_simp; refine ⟨?_, fun v hv => ?_⟩; (go_at_call 35; refine (eqPair_any _ _ _ _ E0.out _).mono ?_; rintro e w'' ⟨rfl, hk⟩; exact ⟨_, rfl, rfl, Bel.step hb' hk⟩); (first | (obtain rfl : v = _ := hv) | (obtain rfl : v = _ := (Option.some.inj hv).symm)); (refine hK _ ?_; clear hK K hb' hc')) | (refine wpRel_plain rfl (fun K hK => ?_); intro w' hb'; have hc' := bc (Bel.out hb'); go_simp; (first | refine hK _ ?_ | refine ⟨(by first | exact hb' | exact Bel.drewN hb' _ | exact Bel.alloc hb' _), hK _ ?_⟩); clear hK K hb' hc'))
      (refine wpRel_nil ?_; intro w1 hb1; replace hb1 := Bel.out hb1; have hc1 := bc hb1; have hf1 := bf hb1; have hs1 := hb1.size; (try simp at hs1); (try have hz10 : w.heap.size < w1.heap.size := by omega); (try have hz11 : w.heap.size + 1 < w1.heap.size := by omega); (try have hz12 : w.heap.size + 1 + 1 < w1.heap.size := by omega); (try have hz13 : w.heap.size + 1 + 1 + 1 < w1.heap.size := by omega))
      go_wp2
      go_roundw
      case rel => exact ⟨k + 1, by omega, by go_num, bstep hb hb1⟩
      case measure => simp [intOf]; omega
    · go_wp2
      go_ret
      exact ⟨by simp, hb⟩

set_option maxHeartbeats 2000000 in
theorem toF_any (A : Option Addr) (c : Nat) (l : List Nat) (w : World) (hr : Kd.C kf w A l.length l) (hm : l.length ≤ 1048576) :
    Calls Try.prog 11 #[.slice A l.length c] w fun e w' => ∃ v, e = .returned v ∧ FR w' w.heap.size v l ∧ Below w.heap.size w w' := by
  have HC : Hid (Kd.C kf w A l.length l) := Lib.hid hr
  clear hr
  go_enter Try.func11, Try.ntmps11
  go_wp2_with (refine Kd.R_make kf _ 25 rfl (N := 7) rfl 23 _ _ rfl (l.length : Int) rfl rfl Try.underlying23 (.float .f32 0) 4 info_f32 rfl (by decide) (by omega) 0 (ok := fun _ => True) (okp := fun _ => True) (kf_mkM _ _ _ FV_zero) (fun _ hk => hk) trivial (by omega) (by omega) (Below.refl _ _) (Nat.le_refl _) ?_; intro v1 w1 ho1 hb1 hg1 hnew1; clear hg1 hnew1; have HO1 := Lib.hid (FR.mk ho1); clear ho1)
  go_loopw [4] (fun i wr => ∃ k : Nat, ∃ ys : List Nat, k ≤ l.length ∧ i = .int .i64 k ∧ Hid (FR wr w.heap.size v1 ys) ∧ Hid (ys.length = l.length) ∧ Hid (∀ j, j < k → ys[j]? = l[j]?) ∧ Below w.heap.size w wr) (fun i _ => l.length - (intOf i).toNat)
  case atStart => exact ⟨0, _, Nat.zero_le _, rfl, HO1, Lib.hid (by simp), Lib.hid (fun j hj => absurd hj (by omega)), hb1⟩
  case round =>
    obtain ⟨k, ys, hk, rfl, HR, HL, HE, hB⟩ := hrel
    clear HO1 hb1
    by_cases hlt : k < l.length
    · obtain ⟨b, off, r, rfl, hbl, c0, hr⟩ := at_kf HC.out k hlt
      have d0 := (bc hB b (off + k) hbl).trans c0
      have HP := Lib.hid hr
      clear c0 hr
      have hpos : 0 < ys.length := by have := HL.out; omega
      obtain ⟨g, cap, rfl, hge, hglt, _⟩ := Kd.R_form HR.out.out hpos
      have HX := Lib.hid (show (k : Int) < ys.length by have := HL.out; omega)
      have hyl : k < ys.length := by have := HL.out; omega
      obtain ⟨ce, hcl, hM, hcc, hfr⟩ := Kd.R_elem HR.out.out 0 (k : Int) (by omega) HX.out
      obtain ⟨r2, rfl, _⟩ := kf_openM hM
      have x0 : wr.cell? ⟨g, k, none⟩ = some (.float .f32 r2) := by have := hcc 0 _ rfl; rwa [show (k : Int).toNat * kf.sz + 0 = k from by show k * 1 + 0 = k; omega] at this
      have f0 : wr.frozen? ⟨g, k, none⟩ = false := by have := hfr 0; rwa [show (k : Int).toNat * kf.sz + 0 = k from by show k * 1 + 0 = k; omega] at this
      have HS0 := (Kd.R_seg HR.out.out (k : Int) (by omega) HX.out (seg := [.float .f32 r]) (j := 0) hcl hcc (show 1 ≤ 1 from Nat.le_refl 1) (x' := l.getD k 0) (kf_mkM wr _ (fun q => True ∧ q ≠ g) HP.out) (fun _ h => h)).1
      have e1 : wr.setCells g ((k : Int).toNat * kf.sz + 0) [.float .f32 r] = wr.setCell ⟨g, k, none⟩ (.float .f32 r) := by show wr.setCell ⟨g, k * 1 + 0, none⟩ _ = _; rw [show k * 1 + 0 = k from by omega]
      rw [e1] at HS0
      have HS := Lib.hid (FR.mk HS0)
      clear hcl hM hcc hfr HS0 e1
      go_wp2
      go_roundw
      case rel =>
        refine ⟨k + 1, ys.set k (l.getD k 0), by omega, by go_num, HS, Lib.hid (by rw [List.length_set]; exact HL.out), Lib.hid (fun j hj => ?_), hB.setCell hge _⟩
        rw [List.getElem?_set]
        by_cases hji : k = j
        · subst hji
          rw [if_pos rfl, if_pos hyl, List.getD_eq_getElem?_getD, List.getElem?_eq_getElem hlt]; rfl
        · rw [if_neg hji]; exact HE.out j (by omega)
      case measure => simp [intOf]; omega
    · go_wp2
      go_ret
      refine ⟨_, rfl, ?_, hB⟩
      have e : ys = l := List.ext_getElem? fun j => by
        by_cases hj : j < k
        · exact HE.out j hj
        · rw [List.getElem?_eq_none (by have := HL.out; omega), List.getElem?_eq_none (by omega)]
      rw [← e]; exact HR.out
end Go.Proofs.Ytpkmmelinfcdaaa
