/- Rows of discs: as a kind; the laws' own functions on them. -/
import Derived.Test.YtiipnbccfbielaaKd
import Derived.Test.YtiipnbccfbielaaSame
import Derived.Test.YtiipnbccfbielaaA
namespace Go.Proofs.Ytiipnbccfbielaa
open Go.RowKit Ieee
open Go.Proofs.YtiipnbccfbielaaW.PrintWords

def kD : Kd (Nat × Nat) := Kd.pair kf kf
theorem kD_open {w : World} {x : Nat × Nat} {cs : List Value} (h : kD.K w x cs) : ∃ r s, cs = [.float .f32 r, .float .f32 s] ∧ FV r x.1 ∧ FV s x.2 := by
  obtain ⟨_, _, rfl, ⟨r, rfl, hr⟩, ⟨s, rfl, hs⟩⟩ := h
  exact ⟨r, s, rfl, hr, hs⟩
theorem kD_openM {w : World} {base : Nat} {ok : Nat → Prop} {x : Nat × Nat} {cs : List Value} (h : kD.M w base ok x cs) : ∃ r s, cs = [.float .f32 r, .float .f32 s] ∧ FV r x.1 ∧ FV s x.2 := kD_open (w := w) (kD.K_of_M h)
theorem kD_mkM (w : World) (base : Nat) (ok : Nat → Prop) {x : Nat × Nat} {r s : Nat} (hr : FV r x.1) (hs : FV s x.2) : kD.M w base ok x [.float .f32 r, .float .f32 s] :=
  ⟨[.float .f32 r], [.float .f32 s], rfl, ⟨r, rfl, hr⟩, ⟨s, rfl, hs⟩⟩
theorem FV_zero : FV 0 0 := ⟨by decide, by decide⟩
theorem at_kD {w : World} {A : Option Addr} {n : Nat} {l : List (Nat × Nat)} (h : Kd.C kD w A n l) (i : Nat) (hi : i < n) :
    ∃ b off r s, A = some ⟨b, off, none⟩ ∧ b < w.heap.size ∧ w.cell? ⟨b, off + i * 2, none⟩ = some (.float .f32 r) ∧ w.cell? ⟨b, off + i * 2 + 1, none⟩ = some (.float .f32 s) ∧ FV r (l.getD i (0, 0)).1 ∧ FV s (l.getD i (0, 0)).2 := by
  obtain ⟨b, off, c, e, hb, _, hK, hc⟩ := C_at h (show 0 < kD.sz by decide) (0, 0) i hi
  obtain ⟨r, s, rfl, hr, hs⟩ := kD_open hK
  exact ⟨b, off, r, s, e, hb, hc 0 _ rfl, hc 1 _ rfl, hr, hs⟩
theorem info_disc : (Try.prog.info? 84).map (fun i => (i.zero, i.size, i.bytes)) = some (some (.agg #[.float .f32 0, .float .f32 0]), 2, 8) := by kernel_rfl

theorem toDisc_any (r s : Nat) (w : World) :
    Calls Try.prog 64 #[.agg #[.float .f32 r, .float .f32 s]] w fun e w' => e = .returned (.agg #[.float .f32 r, .float .f32 s]) ∧ Below w.heap.size w w' := by
  go_enter Try.func64, Try.ntmps64
  go_wp2
  refine bodyPost_ret (v := .agg #[.float .f32 r, .float .f32 s]) (by simp [results, Try.results64, go_sem]; done) rfl ⟨rfl, ?_⟩
  (repeat (first | with_reducible exact Below.refl _ _ | with_reducible refine bset ?_ (by first | (simp; done) | (simp; omega) | omega) _ | with_reducible refine balloc ?_ _ | with_reducible refine bdrewN ?_ _ | with_reducible refine bdrew ?_ | with_reducible refine bstep ?_ (by assumption)))
theorem szDiscS_any (A : Option Addr) (n c : Nat) (hn : n ≤ 9223372036854775807) (w : World) :
    Calls Try.prog 15 #[.slice A n c, .int .i64 1048576] w fun e w' => e = .returned (.int .i64 (if n ≤ 1048576 then 1048576 - (n : Int) else -1)) ∧ w = w' := by
  by_cases h : n ≤ 1048576
  · rw [if_pos h]
    go_enter Try.func15, Try.ntmps15
    go_wp2
    go_ret
    exact ⟨rfl, rfl⟩
  · rw [if_neg h]
    go_enter Try.func15, Try.ntmps15
    go_wp2
    go_ret
    exact ⟨rfl, rfl⟩

set_option maxHeartbeats 2000000 in
theorem toDiscS_any (A : Option Addr) (c : Nat) (l : List (Nat × Nat)) (w : World) (hr : Kd.C kD w A l.length l) (_hc : l.length ≤ c) (hm : l.length ≤ 1048576) :
    Calls Try.prog 17 #[.slice A l.length c] w fun e w' => ∃ v, e = .returned v ∧ Kd.R kD 84 w' w.heap.size (fun _ => True) v l ∧ Below w.heap.size w w' := by
  have HC : Hid (Kd.C kD w A l.length l) := Lib.hid hr
  clear hr
  go_enter Try.func17, Try.ntmps17
  go_wp2_with (refine Kd.R_make kD _ 84 rfl (N := 7) rfl 31 _ _ rfl (l.length : Int) rfl rfl Try.underlying31 (.agg #[.float .f32 0, .float .f32 0]) 8 info_disc rfl (by decide) (by omega) (0, 0) (ok := fun _ => True) (okp := fun _ => True) (kD_mkM _ _ _ FV_zero FV_zero) (fun _ hk => hk) trivial (by omega) (by omega) (Below.refl _ _) (Nat.le_refl _) ?_; intro v1 w1 ho1 hb1 hg1 hnew1; clear hg1 hnew1; have HO1 := Lib.hid ho1; clear ho1)
  go_loopw [4] (fun i wr => ∃ k : Nat, ∃ ys : List (Nat × Nat), k ≤ l.length ∧ i = .int .i64 k ∧ Hid (Kd.R kD 84 wr w.heap.size (fun _ => True) v1 ys) ∧ Hid (ys.length = l.length) ∧ Hid (∀ j, j < k → ys[j]? = l[j]?) ∧ Below w.heap.size w wr) (fun i _ => l.length - (intOf i).toNat)
  case atStart => exact ⟨0, _, Nat.zero_le _, rfl, HO1, Lib.hid (by simp), Lib.hid (fun j hj => absurd hj (by omega)), hb1⟩
  case round =>
    obtain ⟨k, ys, hk, rfl, HR, HL, HE, hB⟩ := hrel
    clear HO1 hb1
    by_cases hlt : k < l.length
    · obtain ⟨b, off, r, s, rfl, hbl, c0, c1, hr, hs⟩ := at_kD HC.out k hlt
      have d0 := (bc hB b (off + k * 2) hbl).trans c0
      have d1 := (bc hB b (off + k * 2 + 1) hbl).trans c1
      clear c0 c1
      have hpos : 0 < ys.length := by have := HL.out; omega
      obtain ⟨g, cap, rfl, hge, hglt, _⟩ := Kd.R_form HR.out hpos
      have HX := Lib.hid (show (k : Int) < ys.length by have := HL.out; omega)
      have hyl : k < ys.length := by have := HL.out; omega
      go_wp2_with (go_at_call 64; go_must (refine (toDisc_any _ _ _).mono ?_; rintro e w2 ⟨rfl, hb2⟩; have hR2 := Lib.hid (Kd.R_below HR.out hb2); obtain ⟨ce, hcl, hM, hcc, hfr⟩ := Kd.R_elem hR2.out (0, 0) (k : Int) (by omega) HX.out; obtain ⟨r2, s2, rfl, _, _⟩ := kD_openM hM; have x0 : w2.cell? ⟨g, k * 2, none⟩ = some (.float .f32 r2) := hcc 0 _ rfl; have x1 : w2.cell? ⟨g, k * 2 + 1, none⟩ = some (.float .f32 s2) := hcc 1 _ rfl; have f0 : w2.frozen? ⟨g, k * 2, none⟩ = false := hfr 0; have f1 : w2.frozen? ⟨g, k * 2 + 1, none⟩ = false := hfr 1; have HS := Lib.hid (Kd.R_seg hR2.out (k : Int) (by omega) HX.out (seg := [.float .f32 r, .float .f32 s]) (j := 0) hcl hcc (show 2 ≤ 2 from Nat.le_refl 2) (x' := l.getD k (0, 0)) (kD_mkM w2 _ (fun q => True ∧ q ≠ g) hr hs) (fun _ h => h)).1; have hB2 := bstep hB hb2; clear hcl hM hcc hfr hb2 hB HR))
      go_roundw
      case rel =>
        refine ⟨k + 1, ys.set k (l.getD k (0, 0)), by omega, by go_num, HS, Lib.hid (by rw [List.length_set]; exact HL.out), Lib.hid (fun j hj => ?_), ?_⟩
        · rw [List.getElem?_set]
          by_cases hji : k = j
          · subst hji
            rw [if_pos rfl, if_pos hyl, List.getD_eq_getElem?_getD, List.getElem?_eq_getElem hlt]; rfl
          · rw [if_neg hji]; exact HE.out j (by omega)
        · exact (hB2.setCell hge _).setCell hge _
      case measure => simp [intOf]; omega
    · go_wp2
      go_ret
      refine ⟨_, rfl, ?_, hB⟩
      have e : ys = l := List.ext_getElem? fun j => by
        by_cases hj : j < k
        · exact HE.out j hj
        · rw [List.getElem?_eq_none (by have := HL.out; omega), List.getElem?_eq_none (by omega)]
      rw [← e]; exact HR.out
end Go.Proofs.Ytiipnbccfbielaa
