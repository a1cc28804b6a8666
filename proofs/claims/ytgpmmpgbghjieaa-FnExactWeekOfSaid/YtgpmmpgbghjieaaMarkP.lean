/- A train marked; own rows of floats compared and held. -/
import Derived.Test.YtgpmmpgbghjieaaPair2
import Derived.OpenShut
namespace Go.Proofs.Ytgpmmpgbghjieaa
open Go.RowKit Ieee
open Go.Proofs.YtgpmmpgbghjieaaW.PrintWords
set_option maxRecDepth 100000

set_option maxHeartbeats 4000000 in
theorem markTrain_any (v : Value) (l : List (Int × Int × Nat)) (m : Int) (base : Nat) (w : World) (hr : Kd.R kP 71 w base (fun _ => True) v l) (hm : l.length ≤ 1048576) (h0 : 0 ≤ m) (h1 : m ≤ 1000000000) :
    Calls Try.prog 17 #[v, .int .i64 m] w fun e w' => e = .returned (.int .i64 (m + 3 * l.length)) ∧ w.grownBy w' v.ownBlock := by
  have HR := Lib.hid hr
  obtain ⟨A, c, hv, hc, _⟩ := Kd.R_reads hr
  subst hv
  clear hr
  go_enter Try.func17, Try.ntmps17
  go_wp2
  go_loopw [1, 5] (fun q i wr => ∃ k : Nat, ∃ ys : List (Int × Int × Nat), k ≤ l.length ∧ q = .int .i64 (m + 3 * k) ∧ i = .int .i64 k ∧ Hid (Kd.R kP 71 wr base (fun _ => True) (.slice A l.length c) ys) ∧ Hid (ys.length = l.length) ∧ Hid (w.grownBy wr (Value.slice A l.length c).ownBlock)) (fun _ i _ => l.length - (intOf i).toNat)
  case atStart => exact ⟨0, l, Nat.zero_le _, by simp, rfl, HR, Lib.hid rfl, Lib.hid (World.grownBy.refl _ _)⟩
  case round =>
    obtain ⟨k, ys, hk, rfl, rfl, HR1, HL, HG⟩ := hrel
    clear HR
    by_cases hlt : k < l.length
    · have hpos : 0 < ys.length := by have := HL.out; omega
      obtain ⟨g, cap, hv, hge, hglt, _⟩ := Kd.R_form HR1.out hpos
      obtain ⟨hA, _, hcap⟩ : A = some ⟨g, 0, none⟩ ∧ l.length = ys.length ∧ c = cap := by injection hv with a b c; exact ⟨a, b, c⟩
      subst hA
      clear hv hcap
      obtain ⟨ce, hcl, hM, hcc, hfr⟩ := Kd.R_elem HR1.out zP (k : Int) (by omega) (by omega)
      obtain ⟨r2, rfl, _, _⟩ := kP_openM hM
      have x0 : wr.cell? ⟨g, k * 3, none⟩ = some (.int .i16 (ys.getD (k : Int).toNat zP).1) := hcc 0 _ rfl
      have x1 : wr.cell? ⟨g, k * 3 + 1, none⟩ = some (.int .i16 (ys.getD (k : Int).toNat zP).2.1) := hcc 1 _ rfl
      have x2 : wr.cell? ⟨g, k * 3 + 2, none⟩ = some (.float .f32 r2) := hcc 2 _ rfl
      have f0 : wr.frozen? ⟨g, k * 3, none⟩ = false := hfr 0
      have f1 : wr.frozen? ⟨g, k * 3 + 1, none⟩ = false := hfr 1
      have f2 : wr.frozen? ⟨g, k * 3 + 2, none⟩ = false := hfr 2
      have hyl : k < ys.length := by have := HL.out; omega
      have HS : Hid (∀ a b : Int, ∀ x : Nat, i16B a b → FV x x → Kd.R kP 71 (((wr.setCell ⟨g, k * 3, none⟩ (.int .i16 a)).setCell ⟨g, k * 3 + 1, none⟩ (.int .i16 b)).setCell ⟨g, k * 3 + 2, none⟩ (.float .f32 x)) base (fun _ => True) (.slice (some ⟨g, 0, none⟩) l.length c) (ys.set k (a, b, x)) ∧ wr.grownBy (((wr.setCell ⟨g, k * 3, none⟩ (.int .i16 a)).setCell ⟨g, k * 3 + 1, none⟩ (.int .i16 b)).setCell ⟨g, k * 3 + 2, none⟩ (.float .f32 x)) (some g)) := Lib.hid (fun a b x hab hx => Kd.R_seg HR1.out (k : Int) (by omega) (by omega) (seg := [.int .i16 a, .int .i16 b, .float .f32 x]) (j := 0) hcl hcc (show 3 ≤ 3 from Nat.le_refl 3) (x' := (a, b, x)) (kP_mkM wr _ (fun q => True ∧ q ≠ g) hab hx) (fun _ h => h))
      clear hcl hM hcc hfr
      go_wp2
      go_roundw
      case rel =>
        have b16 : ∀ e : Int, -32768 ≤ IntKind.i16.wrap e ∧ IntKind.i16.wrap e ≤ 32767 := fun e => by have := wf_wrap .i16 e; simpa [Lit.wf, IntKind.min, IntKind.max, IntKind.signed, IntKind.bits] using this
        have HS2 := HS.out (IntKind.i16.wrap (m + 3 * k)) (IntKind.i16.wrap (m + 3 * k + 1)) (fi (m + 3 * k + 1 + 1)) ⟨(b16 _).1, (b16 _).2, (b16 _).1, (b16 _).2⟩ (fi_FV _)
        exact ⟨k + 1, _, by omega, by go_num, by go_num, Lib.hid HS2.1, Lib.hid (by rw [List.length_set]; exact HL.out), Lib.hid (HG.out.trans HS2.2)⟩
      case measure => simp [intOf]; omega
    · go_wp2
      go_ret
      have hkl : k = l.length := by omega
      exact ⟨by first | (simp [hkl]; done) | (simp; omega) | omega, HG.out⟩
theorem eqFR_any {b b' : Nat} {u v : Value} {xs : List Nat} {w : World} (hu : FR w b u xs) (hv : FR w b' v xs) (hm : xs.length ≤ 1048576) :
    Calls Try.prog 14 #[u, v] w fun e w' => e = .returned (.bool true) ∧ Below w.heap.size w w' := by
  obtain ⟨A, c, rfl, _, hA⟩ := hu.reads
  obtain ⟨B, c', rfl, _, hB⟩ := hv.reads
  exact eqF_any A B c c' xs w hA hB hm
theorem heldFR_any {b : Nat} {v : Value} {n : Nat} {m : Int} {w : World} (hv : FR w b v (mks m n)) (hm : n ≤ 1048576) (h0 : 0 ≤ m) (h1 : m ≤ 1000000000) :
    Calls Try.prog 20 #[v, .int .i64 m] w fun e w' => e = .returned (.int .i64 (m + n)) ∧ w = w' := by
  obtain ⟨A, c, rfl, _, hA⟩ := hv.reads
  rw [mks_length] at hA ⊢
  exact heldF_any A c n m w hA hm h0 h1
theorem FR.ne_pair {W : World} {b b' : Nat} {v v3 : Value} {xs : List Nat} {ys : List (Int × Int × Nat)} (h : FR W b v xs) (h3 : Kd.R kP 71 W b' (fun _ => True) v3 ys) : ∀ k, v.ownBlock = some k → some k ≠ v3.ownBlock := by
  intro k hk he
  obtain ⟨c1, e1⟩ := Kd.R_typed h.out k hk
  obtain ⟨c2, e2⟩ := Kd.R_typed h3 k he.symm
  rw [e1] at e2
  injection e2 with e2
  injection e2 with _ e3
  exact absurd e3 (by decide)
end Go.Proofs.Ytgpmmpgbghjieaa
