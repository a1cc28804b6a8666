/- Rows of teeth marked and held. -/
import Derived.Test.YtgpmmpgbghjieaaTeeth2
import Derived.Test.YtgpmmpgbghjieaaRow
namespace Go.Proofs.Ytgpmmpgbghjieaa
open Go.RowKit Ieee
open Go.Proofs.YtgpmmpgbghjieaaW.PrintWords
set_option maxRecDepth 100000
attribute [local irreducible] wpRel

theorem b8 (e : Int) : i8B (IntKind.i8.wrap e) := by
  have := wf_wrap .i8 e
  simpa [i8B, Lit.wf, IntKind.min, IntKind.max, IntKind.signed, IntKind.bits] using this
def mkT1 (m : Int) (i : Nat) : Tth := (fi (m + 4 * (i : Int)), fi (m + 4 * (i : Int) + 1), fi (m + 4 * (i : Int) + 1 + 1), IntKind.i8.wrap (m + 4 * (i : Int) + 1 + 1 + 1))
/-- n marks from m on. -/
def mkT (m : Int) (n : Nat) : List Tth := (List.range n).map (mkT1 m)
theorem mkT_length (m : Int) (n : Nat) : (mkT m n).length = n := by simp [mkT]
theorem mkT_get (m : Int) {n i : Nat} (h : i < n) : (mkT m n)[i]? = some (mkT1 m i) := by simp [mkT, h]
theorem mkT_getD (m : Int) {n i : Nat} (h : i < n) : (mkT m n).getD i zT = mkT1 m i := by rw [List.getD_eq_getElem?_getD, mkT_get m h]; rfl

set_option maxHeartbeats 4000000 in
theorem markTeeth_any (v : Value) (l : List Tth) (m : Int) (base : Nat) (w : World) (hr : RW kT 64 w base v l) (hm : l.length ≤ 1048576) (h0 : 0 ≤ m) (h1 : m ≤ 1000000000) :
    Calls Try.prog 18 #[v, .int .i64 m] w fun e w' => e = .returned (.int .i64 (m + 4 * l.length)) ∧ RW kT 64 w' base v (mkT m l.length) ∧ w.grownBy w' v.ownBlock := by
  have HR := Lib.hid hr.out
  obtain ⟨A, c, hv, hc, _⟩ := hr.reads
  subst hv
  clear hr
  go_enter Try.func18, Try.ntmps18
  go_wp2
  go_loopw [1, 5] (fun q i wr => ∃ k : Nat, ∃ ys : List Tth, k ≤ l.length ∧ q = .int .i64 (m + 4 * k) ∧ i = .int .i64 k ∧ Hid (Kd.R kT 64 wr base (fun _ => True) (.slice A l.length c) ys) ∧ Hid (ys.length = l.length) ∧ Hid (∀ j, j < k → ys[j]? = (mkT m l.length)[j]?) ∧ Hid (w.grownBy wr (Value.slice A l.length c).ownBlock)) (fun _ i _ => l.length - (intOf i).toNat)
  case atStart => exact ⟨0, l, Nat.zero_le _, by simp, rfl, HR, Lib.hid rfl, Lib.hid (fun j hj => absurd hj (by omega)), Lib.hid (World.grownBy.refl _ _)⟩
  case round =>
    obtain ⟨k, ys, hk, rfl, rfl, HR1, HL, HE, HG⟩ := hrel
    clear HR
    by_cases hlt : k < l.length
    · have hpos : 0 < ys.length := by have := HL.out; omega
      obtain ⟨g, cap, hv, hge, hglt, _⟩ := Kd.R_form HR1.out hpos
      obtain ⟨hA, _, hcap⟩ : A = some ⟨g, 0, none⟩ ∧ l.length = ys.length ∧ c = cap := by injection hv with a b c; exact ⟨a, b, c⟩
      subst hA
      clear hv hcap
      obtain ⟨ce, hcl, hM, hcc, hfr⟩ := Kd.R_elem HR1.out zT (k : Int) (by omega) (by omega)
      obtain ⟨r2, p2, q2, rfl, _, _, _, _⟩ := kT_openM hM
      have x0 : wr.cell? ⟨g, k * 4, none⟩ = some (.float .f32 r2) := hcc 0 _ rfl
      have x1 : wr.cell? ⟨g, k * 4 + 1, none⟩ = some (.float .f32 p2) := hcc 1 _ rfl
      have x2 : wr.cell? ⟨g, k * 4 + 2, none⟩ = some (.float .f32 q2) := hcc 2 _ rfl
      have x3 : wr.cell? ⟨g, k * 4 + 3, none⟩ = some (.int .i8 (ys.getD (k : Int).toNat zT).2.2.2) := hcc 3 _ rfl
      have f0 : wr.frozen? ⟨g, k * 4, none⟩ = false := hfr 0
      have f1 : wr.frozen? ⟨g, k * 4 + 1, none⟩ = false := hfr 1
      have f2 : wr.frozen? ⟨g, k * 4 + 2, none⟩ = false := hfr 2
      have f3 : wr.frozen? ⟨g, k * 4 + 3, none⟩ = false := hfr 3
      have hyl : k < ys.length := by have := HL.out; omega
      have HS : Hid (Kd.R kT 64 ((((wr.setCell ⟨g, k * 4, none⟩ (.float .f32 (fi (m + 4 * (k : Int))))).setCell ⟨g, k * 4 + 1, none⟩ (.float .f32 (fi (m + 4 * (k : Int) + 1)))).setCell ⟨g, k * 4 + 2, none⟩ (.float .f32 (fi (m + 4 * (k : Int) + 1 + 1)))).setCell ⟨g, k * 4 + 3, none⟩ (.int .i8 (IntKind.i8.wrap (m + 4 * (k : Int) + 1 + 1 + 1)))) base (fun _ => True) (.slice (some ⟨g, 0, none⟩) l.length c) (ys.set k (mkT1 m k)) ∧ wr.grownBy ((((wr.setCell ⟨g, k * 4, none⟩ (.float .f32 (fi (m + 4 * (k : Int))))).setCell ⟨g, k * 4 + 1, none⟩ (.float .f32 (fi (m + 4 * (k : Int) + 1)))).setCell ⟨g, k * 4 + 2, none⟩ (.float .f32 (fi (m + 4 * (k : Int) + 1 + 1)))).setCell ⟨g, k * 4 + 3, none⟩ (.int .i8 (IntKind.i8.wrap (m + 4 * (k : Int) + 1 + 1 + 1)))) (some g)) := Lib.hid (Kd.R_seg HR1.out (k : Int) (by omega) (by omega) (seg := [.float .f32 (fi (m + 4 * (k : Int))), .float .f32 (fi (m + 4 * (k : Int) + 1)), .float .f32 (fi (m + 4 * (k : Int) + 1 + 1)), .int .i8 (IntKind.i8.wrap (m + 4 * (k : Int) + 1 + 1 + 1))]) (j := 0) hcl hcc (show 4 ≤ 4 from Nat.le_refl 4) (x' := mkT1 m k) (kT_mkM wr _ (fun q => True ∧ q ≠ g) (fi_FV _) (fi_FV _) (fi_FV _) (b8 _)) (fun _ h => h))
      clear hcl hM hcc hfr
      go_wp2
      refine wp_loop_rounds 3 ?_
      rw [rounds_succ]
      go_wp2
      rw [rounds_succ]
      go_wp2
      rw [rounds_succ]
      go_wp2
      go_roundw
      case rel =>
        refine ⟨k + 1, ys.set k (mkT1 m k), by omega, by go_num, by go_num, Lib.hid HS.out.1, Lib.hid (by rw [List.length_set]; exact HL.out), Lib.hid (fun j hj => ?_), Lib.hid (HG.out.trans HS.out.2)⟩
        rw [List.getElem?_set]
        by_cases hji : k = j
        · subst hji
          rw [if_pos rfl, if_pos hyl, mkT_get m hlt]
        · rw [if_neg hji]; exact HE.out j (by omega)
      case measure => simp [intOf]; omega
    · go_wp2
      go_ret
      have hkl : k = l.length := by omega
      have e : ys = mkT m l.length := List.ext_getElem? fun j => by
        by_cases hj : j < k
        · exact HE.out j hj
        · rw [List.getElem?_eq_none (by have := HL.out; omega), List.getElem?_eq_none (by rw [mkT_length]; omega)]
      refine ⟨by first | (simp [hkl]; done) | (simp; omega) | omega, ?_, HG.out⟩
      rw [← e]; exact HR1.out

set_option maxHeartbeats 4000000 in
theorem heldTeeth_any (A : Option Addr) (c n : Nat) (m : Int) (w : World) (hA : Kd.C kT w A n (mkT m n)) (hm : n ≤ 1048576) (h0 : 0 ≤ m) (h1 : m ≤ 1000000000) :
    Calls Try.prog 27 #[.slice A n c, .int .i64 m] w fun e w' => e = .returned (.int .i64 (m + 4 * n)) ∧ w = w' := by
  have HA := Lib.hid hA
  clear hA
  go_enter Try.func27, Try.ntmps27
  go_wp2
  go_loop [1, 5] (fun q i => ∃ k : Nat, k ≤ n ∧ q = .int .i64 (m + 4 * k) ∧ i = .int .i64 k) (fun _ i => n - (intOf i).toNat)
  case atStart => exact ⟨0, Nat.zero_le _, by simp, rfl⟩
  case round =>
    obtain ⟨k, hk, rfl, rfl⟩ := hrel
    by_cases hlt : k < n
    · obtain ⟨b, off, r, p, q, s, rfl, hbl, c0, c1, c2, c3, hx, hr, hp, hq, h8⟩ := at_kT HA.out k hlt
      rw [mkT_getD m hlt] at hx
      obtain ⟨e0, e1, e2, rfl⟩ : fi (m + 4 * (k : Int)) = cn r ∧ fi (m + 4 * (k : Int) + 1) = cn p ∧ fi (m + 4 * (k : Int) + 1 + 1) = cn q ∧ IntKind.i8.wrap (m + 4 * (k : Int) + 1 + 1 + 1) = s := by simpa [mkT1] using hx
      have g0 := feq_fi (⟨e0.symm, hr⟩ : FV r (fi (m + 4 * (k : Int))))
      have g1 := feq_fi (⟨e1.symm, hp⟩ : FV p (fi (m + 4 * (k : Int) + 1)))
      have g2 := feq_fi (⟨e2.symm, hq⟩ : FV q (fi (m + 4 * (k : Int) + 1 + 1)))
      clear hx hr hp hq h8 e0 e1 e2
      go_wp2
      refine wp_loop_rounds 3 ?_
      rw [rounds_succ]
      go_wp2
      rw [rounds_succ]
      go_wp2
      rw [rounds_succ]
      go_wp2
      go_round
      case rel => exact ⟨k + 1, by omega, by go_num, by go_num⟩
      case measure => simp [intOf]; omega
    · go_wp2
      go_ret
      have hkl : k = n := by omega
      exact ⟨by first | (simp [hkl]; done) | (simp; omega) | omega, rfl⟩
end Go.Proofs.Ytgpmmpgbghjieaa
