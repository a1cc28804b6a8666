/- Rows of pairs of wheels: as a kind; the laws' own functions on them. -/
import Derived.Test.YtpkmmelinfcdaaaAp
import Derived.Test.YtpkmmelinfcdaaaA
namespace Go.Proofs.Ytpkmmelinfcdaaa
open Go.RowKit Ieee
open Go.Proofs.YtpkmmelinfcdaaaW.PrintWords
set_option maxRecDepth 100000

/-- A whole number of sixteen bits. -/
def ki16 : Kd Int where
  sz := 1
  E := []
  K := fun _ x cs => cs = [.int .i16 x] ∧ -32768 ≤ x ∧ x ≤ 32767
  M := fun _ _ _ x cs => cs = [.int .i16 x] ∧ -32768 ≤ x ∧ x ≤ 32767
  K_len := by rintro w x cs ⟨rfl, _⟩; rfl
  K_one := by rintro w x cs ⟨rfl, _⟩ u hu; rw [List.mem_singleton.1 hu]; rfl
  K_below := fun _ h => h
  K_of_M := fun h => h
  M_mono := fun _ h => h
  M_bound := fun h => h
  M_move := fun _ h => h
  M_lower := fun _ h => h
/-- A pair: driver, driven wheel, loss. -/
def kP : Kd (Int × Int × Nat) := Kd.pair ki16 (Kd.pair ki16 kf)
def i16B (a b : Int) : Prop := -32768 ≤ a ∧ a ≤ 32767 ∧ -32768 ≤ b ∧ b ≤ 32767
theorem kP_open {w : World} {x : Int × Int × Nat} {cs : List Value} (h : kP.K w x cs) : ∃ r, cs = [.int .i16 x.1, .int .i16 x.2.1, .float .f32 r] ∧ FV r x.2.2 ∧ i16B x.1 x.2.1 := by
  obtain ⟨_, _, rfl, ⟨rfl, h1, h2⟩, ⟨_, _, rfl, ⟨rfl, h3, h4⟩, ⟨r, rfl, hr⟩⟩⟩ := h
  exact ⟨r, rfl, hr, h1, h2, h3, h4⟩
theorem kP_openM {w : World} {base : Nat} {ok : Nat → Prop} {x : Int × Int × Nat} {cs : List Value} (h : kP.M w base ok x cs) : ∃ r, cs = [.int .i16 x.1, .int .i16 x.2.1, .float .f32 r] ∧ FV r x.2.2 ∧ i16B x.1 x.2.1 := kP_open (w := w) (kP.K_of_M h)
theorem kP_mkM (w : World) (base : Nat) (ok : Nat → Prop) {a b : Int} {x r : Nat} (hb : i16B a b) (hr : FV r x) : kP.M w base ok (a, b, x) [.int .i16 a, .int .i16 b, .float .f32 r] :=
  ⟨[.int .i16 a], [.int .i16 b, .float .f32 r], rfl, ⟨rfl, hb.1, hb.2.1⟩, [.int .i16 b], [.float .f32 r], rfl, ⟨rfl, hb.2.2.1, hb.2.2.2⟩, ⟨r, rfl, hr⟩⟩
theorem FV_zero : FV 0 0 := ⟨by decide, by decide⟩
def zP : Int × Int × Nat := (0, 0, 0)
theorem at_kP {w : World} {A : Option Addr} {n : Nat} {l : List (Int × Int × Nat)} (h : Kd.C kP w A n l) (i : Nat) (hi : i < n) :
    ∃ b off p q x r, A = some ⟨b, off, none⟩ ∧ b < w.heap.size ∧ w.cell? ⟨b, off + i * 3, none⟩ = some (.int .i16 p) ∧ w.cell? ⟨b, off + i * 3 + 1, none⟩ = some (.int .i16 q) ∧ w.cell? ⟨b, off + i * 3 + 2, none⟩ = some (.float .f32 r) ∧ l.getD i zP = (p, q, x) ∧ FV r x ∧ i16B p q := by
  obtain ⟨b, off, c, e, hb, _, hK, hc⟩ := C_at h (show 0 < kP.sz by decide) zP i hi
  obtain ⟨r, rfl, hr, h16⟩ := kP_open hK
  exact ⟨b, off, _, _, _, r, e, hb, hc 0 _ rfl, hc 1 _ rfl, hc 2 _ rfl, rfl, hr, h16⟩
theorem info_pair : (Try.prog.info? 56).map (fun i => (i.zero, i.size, i.bytes)) = some (some (.agg #[.int .i16 0, .int .i16 0, .float .f32 0]), 3, 8) := by kernel_rfl

theorem toPair_any (a b : Int) (r : Nat) (w : World) :
    Calls Try.prog 32 #[.agg #[.int .i16 a, .int .i16 b, .float .f32 r]] w fun e w' => e = .returned (.agg #[.int .i16 a, .int .i16 b, .float .f32 r]) ∧ Below w.heap.size w w' := by
  go_enter Try.func32, Try.ntmps32
  go_wp2
  refine bodyPost_ret (v := .agg #[.int .i16 a, .int .i16 b, .float .f32 r]) (by simp [results, Try.results32, go_sem]; done) rfl ⟨rfl, ?_⟩
  (repeat (first | with_reducible exact Below.refl _ _ | with_reducible refine bset ?_ (by first | (simp; done) | (simp; omega) | omega) _ | with_reducible refine balloc ?_ _ | with_reducible refine bdrewN ?_ _ | with_reducible refine bdrew ?_ | with_reducible refine bstep ?_ (by assumption)))
theorem szTrain_le (A : Option Addr) (n c : Nat) (m : Int) (h : (n : Int) ≤ m) (hm : m ≤ 1048576) (w : World) :
    Calls Try.prog 8 #[.slice A n c, .int .i64 m] w fun e w' => e = .returned (.int .i64 (m - (n : Int))) ∧ w = w' := by
  go_enter Try.func8, Try.ntmps8
  go_wp2
  go_ret
  exact ⟨rfl, rfl⟩
theorem szTrain_gt (A : Option Addr) (n c : Nat) (m : Int) (h : ¬ (n : Int) ≤ m) (hm : 0 ≤ m) (hm2 : m ≤ 1048576) (hn : n ≤ 9223372036854775807) (w : World) :
    Calls Try.prog 8 #[.slice A n c, .int .i64 m] w fun e w' => e = .returned (.int .i64 (-1)) ∧ w = w' := by
  go_enter Try.func8, Try.ntmps8
  go_wp2
  go_ret
  exact ⟨rfl, rfl⟩

set_option maxHeartbeats 2000000 in
theorem toTrain_any (A : Option Addr) (c : Nat) (l : List (Int × Int × Nat)) (w : World) (hr : Kd.C kP w A l.length l) (_hc : l.length ≤ c) (hm : l.length ≤ 1048576) :
    Calls Try.prog 10 #[.slice A l.length c] w fun e w' => ∃ v, e = .returned v ∧ Kd.R kP 56 w' w.heap.size (fun _ => True) v l ∧ Below w.heap.size w w' := by
  have HC : Hid (Kd.C kP w A l.length l) := Lib.hid hr
  clear hr
  go_enter Try.func10, Try.ntmps10
  go_wp2_with (refine Kd.R_make kP _ 56 rfl (N := 7) rfl 29 _ _ rfl (l.length : Int) rfl rfl Try.underlying29 (.agg #[.int .i16 0, .int .i16 0, .float .f32 0]) 8 info_pair rfl (by decide) (by omega) zP (ok := fun _ => True) (okp := fun _ => True) (kP_mkM _ _ _ ⟨by decide, by decide, by decide, by decide⟩ FV_zero) (fun _ hk => hk) trivial (by omega) (by omega) (Below.refl _ _) (Nat.le_refl _) ?_; intro v1 w1 ho1 hb1 hg1 hnew1; clear hg1 hnew1; have HO1 := Lib.hid ho1; clear ho1)
  go_loopw [4] (fun i wr => ∃ k : Nat, ∃ ys : List (Int × Int × Nat), k ≤ l.length ∧ i = .int .i64 k ∧ Hid (Kd.R kP 56 wr w.heap.size (fun _ => True) v1 ys) ∧ Hid (ys.length = l.length) ∧ Hid (∀ j, j < k → ys[j]? = l[j]?) ∧ Below w.heap.size w wr) (fun i _ => l.length - (intOf i).toNat)
  case atStart => exact ⟨0, _, Nat.zero_le _, rfl, HO1, Lib.hid (by simp), Lib.hid (fun j hj => absurd hj (by omega)), hb1⟩
  case round =>
    obtain ⟨k, ys, hk, rfl, HR, HL, HE, hB⟩ := hrel
    clear HO1 hb1
    by_cases hlt : k < l.length
    · obtain ⟨b, off, p, q, x, r, rfl, hbl, c0, c1, c2, hx, hr, h16⟩ := at_kP HC.out k hlt
      have d0 := (bc hB b (off + k * 3) hbl).trans c0
      have d1 := (bc hB b (off + k * 3 + 1) hbl).trans c1
      have d2 := (bc hB b (off + k * 3 + 2) hbl).trans c2
      have HX0 := Lib.hid hx
      have HP := Lib.hid (And.intro hr h16)
      clear c0 c1 c2 hx hr h16
      have hpos : 0 < ys.length := by have := HL.out; omega
      obtain ⟨g, cap, rfl, hge, hglt, _⟩ := Kd.R_form HR.out hpos
      have HX := Lib.hid (show (k : Int) < ys.length by have := HL.out; omega)
      have hyl : k < ys.length := by have := HL.out; omega
      go_wp2_with (go_at_call 32; go_must (refine (toPair_any _ _ _ _).mono ?_; rintro e w2 ⟨rfl, hb2⟩; have hR2 := Lib.hid (Kd.R_below HR.out hb2); obtain ⟨ce, hcl, hM, hcc, hfr⟩ := Kd.R_elem hR2.out zP (k : Int) (by omega) HX.out; obtain ⟨r2, rfl, _, _⟩ := kP_openM hM; have x0 := hcc 0 _ rfl; have x1 := hcc 1 _ rfl; have x2 := hcc 2 _ rfl; replace x0 : w2.cell? ⟨g, k * 3, none⟩ = some (.int .i16 (ys.getD (k : Int).toNat zP).1) := x0; replace x1 : w2.cell? ⟨g, k * 3 + 1, none⟩ = some (.int .i16 (ys.getD (k : Int).toNat zP).2.1) := x1; replace x2 : w2.cell? ⟨g, k * 3 + 2, none⟩ = some (.float .f32 r2) := x2; have f0 : w2.frozen? ⟨g, k * 3, none⟩ = false := hfr 0; have f1 : w2.frozen? ⟨g, k * 3 + 1, none⟩ = false := hfr 1; have f2 : w2.frozen? ⟨g, k * 3 + 2, none⟩ = false := hfr 2; have HS := Lib.hid (Kd.R_seg hR2.out (k : Int) (by omega) HX.out (seg := [.int .i16 p, .int .i16 q, .float .f32 r]) (j := 0) hcl hcc (show 3 ≤ 3 from Nat.le_refl 3) (x' := (p, q, x)) (kP_mkM w2 _ (fun q => True ∧ q ≠ g) HP.out.2 HP.out.1) (fun _ h => h)).1; have hB2 := bstep hB hb2; clear hcl hM hcc hfr hb2 hB HR))
      go_roundw
      case rel =>
        refine ⟨k + 1, ys.set k (p, q, x), by omega, by go_num, HS, Lib.hid (by rw [List.length_set]; exact HL.out), Lib.hid (fun j hj => ?_), ?_⟩
        · rw [List.getElem?_set]
          by_cases hji : k = j
          · subst hji
            rw [if_pos rfl, if_pos hyl, ← HX0.out, List.getD_eq_getElem?_getD, List.getElem?_eq_getElem hlt]; rfl
          · rw [if_neg hji]; exact HE.out j (by omega)
        · exact ((hB2.setCell hge _).setCell hge _).setCell hge _
      case measure => simp [intOf]; omega
    · go_wp2
      go_ret
      refine ⟨_, rfl, ?_, hB⟩
      have e : ys = l := List.ext_getElem? fun j => by
        by_cases hj : j < k
        · exact HE.out j hj
        · rw [List.getElem?_eq_none (by have := HL.out; omega), List.getElem?_eq_none (by omega)]
      rw [← e]; exact HR.out

end Go.Proofs.Ytpkmmelinfcdaaa
