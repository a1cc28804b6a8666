/- Rows of teeth: as a kind; the laws' own functions on them. -/
import Derived.Test.YtgpmmpgbghjieaaPair2
import Derived.Test.YtgpmmpgbghjieaaTooth2
namespace Go.Proofs.Ytgpmmpgbghjieaa
open Go.RowKit Ieee
open Go.Proofs.YtgpmmpgbghjieaaW.PrintWords
set_option maxRecDepth 100000

/-- A whole number of eight bits. -/
def ki8 : Kd Int where
  sz := 1
  E := []
  K := fun _ x cs => cs = [.int .i8 x] ∧ -128 ≤ x ∧ x ≤ 127
  M := fun _ _ _ x cs => cs = [.int .i8 x] ∧ -128 ≤ x ∧ x ≤ 127
  K_len := by rintro w x cs ⟨rfl, _⟩; rfl
  K_one := by rintro w x cs ⟨rfl, _⟩ u hu; rw [List.mem_singleton.1 hu]; rfl
  K_below := fun _ h => h
  K_of_M := fun h => h
  M_mono := fun _ h => h
  M_bound := fun h => h
  M_move := fun _ h => h
  M_lower := fun _ h => h
/-- A tooth: how hard, both wears, the side. -/
def kT : Kd (Nat × Nat × Nat × Int) := Kd.pair kf (Kd.pair kf (Kd.pair kf ki8))
def i8B (s : Int) : Prop := -128 ≤ s ∧ s ≤ 127
theorem kT_open {w : World} {x : Nat × Nat × Nat × Int} {cs : List Value} (h : kT.K w x cs) : ∃ r a b, cs = [.float .f32 r, .float .f32 a, .float .f32 b, .int .i8 x.2.2.2] ∧ FV r x.1 ∧ FV a x.2.1 ∧ FV b x.2.2.1 ∧ i8B x.2.2.2 := by
  obtain ⟨_, _, rfl, ⟨r, rfl, hr⟩, _, _, rfl, ⟨a, rfl, ha⟩, _, _, rfl, ⟨b, rfl, hb⟩, rfl, h1, h2⟩ := h
  exact ⟨r, a, b, rfl, hr, ha, hb, h1, h2⟩
theorem kT_openM {w : World} {base : Nat} {ok : Nat → Prop} {x : Nat × Nat × Nat × Int} {cs : List Value} (h : kT.M w base ok x cs) : ∃ r a b, cs = [.float .f32 r, .float .f32 a, .float .f32 b, .int .i8 x.2.2.2] ∧ FV r x.1 ∧ FV a x.2.1 ∧ FV b x.2.2.1 ∧ i8B x.2.2.2 := kT_open (w := w) (kT.K_of_M h)
theorem kT_mkM (w : World) (base : Nat) (ok : Nat → Prop) {x a b r p q : Nat} {s : Int} (hr : FV r x) (ha : FV p a) (hb : FV q b) (hs : i8B s) : kT.M w base ok (x, a, b, s) [.float .f32 r, .float .f32 p, .float .f32 q, .int .i8 s] :=
  ⟨[.float .f32 r], [.float .f32 p, .float .f32 q, .int .i8 s], rfl, ⟨r, rfl, hr⟩, [.float .f32 p], [.float .f32 q, .int .i8 s], rfl, ⟨p, rfl, ha⟩, [.float .f32 q], [.int .i8 s], rfl, ⟨q, rfl, hb⟩, rfl, hs.1, hs.2⟩
def zT : Nat × Nat × Nat × Int := (0, 0, 0, 0)
theorem at_kT {w : World} {A : Option Addr} {n : Nat} {l : List (Nat × Nat × Nat × Int)} (h : Kd.C kT w A n l) (i : Nat) (hi : i < n) :
    ∃ b off r p q s, A = some ⟨b, off, none⟩ ∧ b < w.heap.size ∧ w.cell? ⟨b, off + i * 4, none⟩ = some (.float .f32 r) ∧ w.cell? ⟨b, off + i * 4 + 1, none⟩ = some (.float .f32 p) ∧ w.cell? ⟨b, off + i * 4 + 2, none⟩ = some (.float .f32 q) ∧ w.cell? ⟨b, off + i * 4 + 3, none⟩ = some (.int .i8 s) ∧ l.getD i zT = (cn r, cn p, cn q, s) ∧ r < 4294967296 ∧ p < 4294967296 ∧ q < 4294967296 ∧ i8B s := by
  obtain ⟨b, off, c, e, hb, _, hK, hc⟩ := C_at h (show 0 < kT.sz by decide) zT i hi
  obtain ⟨r, p, q, rfl, hr, hp, hq, h8⟩ := kT_open hK
  refine ⟨b, off, r, p, q, _, e, hb, hc 0 _ rfl, hc 1 _ rfl, hc 2 _ rfl, hc 3 _ rfl, ?_, hr.2, hp.2, hq.2, h8⟩
  rw [hr.1, hp.1, hq.1]
theorem info_tooth : (Try.prog.info? 64).map (fun i => (i.zero, i.size, i.bytes)) = some (some (.agg #[.float .f32 0, .float .f32 0, .float .f32 0, .int .i8 0]), 4, 16) := by kernel_rfl

theorem szTooth_le (A : Option Addr) (n c : Nat) (m : Int) (h : (n : Int) ≤ m) (hm : m ≤ 1048576) (w : World) :
    Calls Try.prog 9 #[.slice A n c, .int .i64 m] w fun e w' => e = .returned (.int .i64 (m - (n : Int))) ∧ w = w' := by
  go_enter Try.func9, Try.ntmps9
  go_wp2
  go_ret
  exact ⟨rfl, rfl⟩
theorem szTooth_gt (A : Option Addr) (n c : Nat) (m : Int) (h : ¬ (n : Int) ≤ m) (hm : 0 ≤ m) (hm2 : m ≤ 1048576) (hn : n ≤ 9223372036854775807) (w : World) :
    Calls Try.prog 9 #[.slice A n c, .int .i64 m] w fun e w' => e = .returned (.int .i64 (-1)) ∧ w = w' := by
  go_enter Try.func9, Try.ntmps9
  go_wp2
  go_ret
  exact ⟨rfl, rfl⟩

set_option maxHeartbeats 2000000 in
theorem toTeeth_any (A : Option Addr) (c : Nat) (l : List (Nat × Nat × Nat × Int)) (w : World) (hr : Kd.C kT w A l.length l) (_hc : l.length ≤ c) (hm : l.length ≤ 1048576) :
    Calls Try.prog 12 #[.slice A l.length c] w fun e w' => ∃ v, e = .returned v ∧ Kd.R kT 64 w' w.heap.size (fun _ => True) v l ∧ Below w.heap.size w w' := by
  have HC : Hid (Kd.C kT w A l.length l) := Lib.hid hr
  clear hr
  go_enter Try.func12, Try.ntmps12
  go_wp2_with (refine Kd.R_make kT _ 64 rfl (N := 7) rfl 32 _ _ rfl (l.length : Int) rfl rfl Try.underlying32 (.agg #[.float .f32 0, .float .f32 0, .float .f32 0, .int .i8 0]) 16 info_tooth rfl (by decide) (by omega) zT (ok := fun _ => True) (okp := fun _ => True) (kT_mkM _ _ _ FV_zero FV_zero FV_zero ⟨by decide, by decide⟩) (fun _ hk => hk) trivial (by omega) (by omega) (Below.refl _ _) (Nat.le_refl _) ?_; intro v1 w1 ho1 hb1 hg1 hnew1; clear hg1 hnew1; have HO1 := Lib.hid ho1; clear ho1)
  go_loopw [4] (fun i wr => ∃ k : Nat, ∃ ys : List (Nat × Nat × Nat × Int), k ≤ l.length ∧ i = .int .i64 k ∧ Hid (Kd.R kT 64 wr w.heap.size (fun _ => True) v1 ys) ∧ Hid (ys.length = l.length) ∧ Hid (∀ j, j < k → ys[j]? = l[j]?) ∧ Below w.heap.size w wr) (fun i _ => l.length - (intOf i).toNat)
  case atStart => exact ⟨0, _, Nat.zero_le _, rfl, HO1, Lib.hid (by simp), Lib.hid (fun j hj => absurd hj (by omega)), hb1⟩
  case round =>
    obtain ⟨k, ys, hk, rfl, HR, HL, HE, hB⟩ := hrel
    clear HO1 hb1
    by_cases hlt : k < l.length
    · obtain ⟨b, off, r, p, q, s, rfl, hbl, c0, c1, c2, c3, hx, hr, hp, hq, h8⟩ := at_kT HC.out k hlt
      have d0 := (bc hB b (off + k * 4) hbl).trans c0
      have d1 := (bc hB b (off + k * 4 + 1) hbl).trans c1
      have d2 := (bc hB b (off + k * 4 + 2) hbl).trans c2
      have d3 := (bc hB b (off + k * 4 + 3) hbl).trans c3
      have HX0 := Lib.hid hx
      have HP := Lib.hid (And.intro hr (And.intro hp (And.intro hq h8)))
      clear c0 c1 c2 c3 hx hr hp hq h8
      have hpos : 0 < ys.length := by have := HL.out; omega
      obtain ⟨g, cap, rfl, hge, hglt, _⟩ := Kd.R_form HR.out hpos
      have HX := Lib.hid (show (k : Int) < ys.length by have := HL.out; omega)
      have hyl : k < ys.length := by have := HL.out; omega
      go_wp2_with (go_at_call 43; go_must (refine (toTooth_any _ _ _ _ _).mono ?_; rintro e w2 ⟨rfl, hb2⟩; have hR2 := Lib.hid (Kd.R_below HR.out hb2); obtain ⟨ce, hcl, hM, hcc, hfr⟩ := Kd.R_elem hR2.out zT (k : Int) (by omega) HX.out; obtain ⟨r2, p2, q2, rfl, _, _, _, _⟩ := kT_openM hM; have x0 := hcc 0 _ rfl; have x1 := hcc 1 _ rfl; have x2 := hcc 2 _ rfl; have x3 := hcc 3 _ rfl; replace x0 : w2.cell? ⟨g, k * 4, none⟩ = some (.float .f32 r2) := x0; replace x1 : w2.cell? ⟨g, k * 4 + 1, none⟩ = some (.float .f32 p2) := x1; replace x2 : w2.cell? ⟨g, k * 4 + 2, none⟩ = some (.float .f32 q2) := x2; replace x3 : w2.cell? ⟨g, k * 4 + 3, none⟩ = some (.int .i8 (ys.getD (k : Int).toNat zT).2.2.2) := x3; have f0 : w2.frozen? ⟨g, k * 4, none⟩ = false := hfr 0; have f1 : w2.frozen? ⟨g, k * 4 + 1, none⟩ = false := hfr 1; have f2 : w2.frozen? ⟨g, k * 4 + 2, none⟩ = false := hfr 2; have f3 : w2.frozen? ⟨g, k * 4 + 3, none⟩ = false := hfr 3; have HS := Lib.hid (Kd.R_seg hR2.out (k : Int) (by omega) HX.out (seg := [.float .f32 r, .float .f32 p, .float .f32 q, .int .i8 s]) (j := 0) hcl hcc (show 4 ≤ 4 from Nat.le_refl 4) (x' := (cn r, cn p, cn q, s)) (kT_mkM w2 _ (fun q => True ∧ q ≠ g) ⟨rfl, HP.out.1⟩ ⟨rfl, HP.out.2.1⟩ ⟨rfl, HP.out.2.2.1⟩ HP.out.2.2.2) (fun _ h => h)).1; have hB2 := bstep hB hb2; clear hcl hM hcc hfr hb2 hB HR))
      go_roundw
      case rel =>
        refine ⟨k + 1, ys.set k (cn r, cn p, cn q, s), by omega, by go_num, HS, Lib.hid (by rw [List.length_set]; exact HL.out), Lib.hid (fun j hj => ?_), ?_⟩
        · rw [List.getElem?_set]
          by_cases hji : k = j
          · subst hji
            rw [if_pos rfl, if_pos hyl, ← HX0.out, List.getD_eq_getElem?_getD, List.getElem?_eq_getElem hlt]; rfl
          · rw [if_neg hji]; exact HE.out j (by omega)
        · exact (((hB2.setCell hge _).setCell hge _).setCell hge _).setCell hge _
      case measure => simp [intOf]; omega
    · go_wp2
      go_ret
      refine ⟨_, rfl, ?_, hB⟩
      have e : ys = l := List.ext_getElem? fun j => by
        by_cases hj : j < k
        · exact HE.out j hj
        · rw [List.getElem?_eq_none (by have := HL.out; omega), List.getElem?_eq_none (by omega)]
      rw [← e]; exact HR.out

set_option maxHeartbeats 2000000 in
theorem eqTeeth_any (A B : Option Addr) (c c' : Nat) (l : List (Nat × Nat × Nat × Int)) (w : World) (hA : Kd.C kT w A l.length l) (hB : Kd.C kT w B l.length l) (hm : l.length ≤ 1048576) :
    Calls Try.prog 16 #[.slice A l.length c, .slice B l.length c'] w fun e w' => e = .returned (.bool true) ∧ Below w.heap.size w w' := by
  have HA : Hid (Kd.C kT w A l.length l) := Lib.hid hA
  have HB : Hid (Kd.C kT w B l.length l) := Lib.hid hB
  clear hA hB
  go_enter Try.func16, Try.ntmps16
  go_wp2
  go_loopw [5] (fun i wr => ∃ k : Nat, k ≤ l.length ∧ i = .int .i64 k ∧ Below w.heap.size w wr) (fun i _ => l.length - (intOf i).toNat)
  case atStart => exact ⟨0, Nat.zero_le _, rfl, Below.refl _ _⟩
  case round =>
    obtain ⟨k, hk, rfl, hb⟩ := hrel
    by_cases hlt : k < l.length
    · obtain ⟨b, off, r, p, q, s, rfl, hbl, c0, c1, c2, c3, hx, _, _, _, _⟩ := at_kT HA.out k hlt
      obtain ⟨b', off', r', p', q', s', rfl, hbl', c0', c1', c2', c3', hx', _, _, _, _⟩ := at_kT HB.out k hlt
      rw [hx] at hx'
      obtain ⟨e0, e1, e2, rfl⟩ : cn r = cn r' ∧ cn p = cn p' ∧ cn q = cn q' ∧ s = s' := by simpa using hx'
      have d0 := (bc hb b (off + k * 4) hbl).trans c0
      have d1 := (bc hb b (off + k * 4 + 1) hbl).trans c1
      have d2 := (bc hb b (off + k * 4 + 2) hbl).trans c2
      have d3 := (bc hb b (off + k * 4 + 3) hbl).trans c3
      have d0' := (bc hb b' (off' + k * 4) hbl').trans c0'
      have d1' := (bc hb b' (off' + k * 4 + 1) hbl').trans c1'
      have d2' := (bc hb b' (off' + k * 4 + 2) hbl').trans c2'
      have d3' := (bc hb b' (off' + k * 4 + 3) hbl').trans c3'
      have l0 : b < wr.heap.size := Nat.lt_of_lt_of_le hbl hb.size
      have l1 : b' < wr.heap.size := Nat.lt_of_lt_of_le hbl' hb.size
      have E0 := Lib.hid (And.intro e0 (And.intro e1 e2))
      clear c0 c1 c2 c3 c0' c1' c2' c3' hx hx' e0 e1 e2
      obtain ⟨wo, hwo⟩ : ∃ wo : World, wo = wr := ⟨_, rfl⟩
      subst hwo
      go_wp2
      refine region_below (DIs (.bool true)) (by kernel_rfl) (by kernel_rfl) ?_
      repeat (first | (refine wpRel_plain rfl (fun K hK => ?_); intro w' hb'; have hc' := bc (Bel.out hb'); go_simp; refine ⟨?_, fun v hv => ?_⟩; (go_at_call 48; refine (eqTooth_any _ _ _ _ _ _ _ E0.out.1 E0.out.2.1 E0.out.2.2 _).mono ?_; rintro e w'' ⟨rfl, hk⟩; exact ⟨_, rfl, rfl, Bel.step hb' hk⟩); (first | (obtain rfl : v = _ := hv) | (obtain rfl : v = _ := (Option.some.inj hv).symm)); (refine hK _ ?_; clear hK K hb' hc')) | (refine wpRel_plain rfl (fun K hK => ?_); intro w' hb'; have hc' := bc (Bel.out hb'); go_simp; (first | refine hK _ ?_ | refine ⟨(by first | exact hb' | exact Bel.drewN hb' _ | exact Bel.alloc hb' _), hK _ ?_⟩); clear hK K hb' hc'))
      (refine wpRel_nil ?_; intro w1 hb1; replace hb1 := Bel.out hb1; have hc1 := bc hb1; have hf1 := bf hb1; have hs1 := hb1.size; (try simp at hs1); (try have hz10 : w.heap.size < w1.heap.size := by omega); (try have hz11 : w.heap.size + 1 < w1.heap.size := by omega); (try have hz12 : w.heap.size + 1 + 1 < w1.heap.size := by omega); (try have hz13 : w.heap.size + 1 + 1 + 1 < w1.heap.size := by omega))
      go_wp2
      go_roundw
      case rel => exact ⟨k + 1, by omega, by go_num, bstep hb hb1⟩
      case measure => simp [intOf]; omega
    · go_wp2
      go_ret
      exact ⟨by simp, hb⟩
end Go.Proofs.Ytgpmmpgbghjieaa
