/- Marks on rows of whole numbers, whatever comes; rows of floats compared and held. -/
import Derived.Test.YtidcnkjgbleoiaaFac2
namespace Go.Proofs.Ytidcnkjgbleoiaa
open Go.RowKit Ieee
open Go.Proofs.YtidcnkjgbleoiaaW.PrintWords
set_option maxRecDepth 100000
attribute [local irreducible] wpRel
set_option maxHeartbeats 2000000 in
theorem markI_any (v : Value) (l : List Int) (m : Int) (base : Nat) (w : World) (hr : RW ki16 40 w base v l) (hm : l.length ≤ 1048576) (h0 : 0 ≤ m) (h1 : m ≤ 1000) :
    Calls Try.prog 11 #[v, .int .i64 m] w fun e w' => e = .returned (.int .i64 (m + l.length)) ∧ w.grownBy w' v.ownBlock := by
  have HR := Lib.hid hr
  obtain ⟨A, c, hv, hc, _⟩ := RW.reads hr
  subst hv
  clear hr
  go_enter Try.func11, Try.ntmps11
  go_wp2
  go_loopw [1, 5] (fun q i wr => ∃ k : Nat, ∃ ys : List Int, k ≤ l.length ∧ q = .int .i64 (m + k) ∧ i = .int .i64 k ∧ Hid (RW ki16 40 wr base (.slice A l.length c) ys) ∧ Hid (ys.length = l.length) ∧ Hid (w.grownBy wr (Value.slice A l.length c).ownBlock)) (fun _ i _ => l.length - (intOf i).toNat)
  case atStart => exact ⟨0, l, Nat.zero_le _, by simp, rfl, HR, Lib.hid rfl, Lib.hid (World.grownBy.refl _ _)⟩
  case round =>
    obtain ⟨k, ys, hk, rfl, rfl, HR1, HL, HG⟩ := hrel
    clear HR
    by_cases hlt : k < l.length
    · have hpos : 0 < ys.length := by have := HL.out; omega
      obtain ⟨g, cap, hv, hge, hglt, _⟩ := Kd.R_form HR1.out hpos
      obtain ⟨hA, _, hcap⟩ : A = some ⟨g, 0, none⟩ ∧ l.length = ys.length ∧ c = cap := by injection hv with a b c; exact ⟨a, b, c⟩
      subst hA
      clear hv hcap
      obtain ⟨ce, hcl, hM, hcc, hfr⟩ := Kd.R_elem HR1.out 0 (k : Int) (by omega) (by omega)
      obtain ⟨rfl, _, _⟩ := ki_openM hM
      have x0 : wr.cell? ⟨g, k, none⟩ = some (.int .i16 (ys.getD (k : Int).toNat 0)) := by have := hcc 0 _ rfl; rwa [show (k : Int).toNat * ki16.sz + 0 = k from by show k * 1 + 0 = k; omega] at this
      have f0 : wr.frozen? ⟨g, k, none⟩ = false := by have := hfr 0; rwa [show (k : Int).toNat * ki16.sz + 0 = k from by show k * 1 + 0 = k; omega] at this
      obtain ⟨z, hz⟩ : ∃ z, IntKind.i16.wrap (m + (k : Int)) = z := ⟨_, rfl⟩
      have hzb : -32768 ≤ z ∧ z ≤ 32767 := by rw [← hz]; simp only [IntKind.wrap, IntKind.signed, IntKind.bits]; first | omega | (simp; omega)
      have HS0 := Kd.R_seg HR1.out (k : Int) (by omega) (by omega) (seg := [.int .i16 z]) (j := 0) hcl hcc (show 1 ≤ 1 from Nat.le_refl 1) (x' := z) (ki_mkM wr _ (fun q => True ∧ q ≠ g) hzb.1 hzb.2) (fun _ h => h)
      have e1 : wr.setCells g ((k : Int).toNat * ki16.sz + 0) [.int .i16 z] = wr.setCell ⟨g, k, none⟩ (.int .i16 z) := by show wr.setCell ⟨g, k * 1 + 0, none⟩ _ = _; rw [show k * 1 + 0 = k from by omega]
      rw [e1] at HS0
      have HS := Lib.hid HS0
      have hyl : k < ys.length := by have := HL.out; omega
      clear hcl hM hcc hfr HS0 e1 hzb
      go_wp2
      clear hz
      go_roundw
      case rel => exact ⟨k + 1, ys.set k z, by omega, by go_num, by go_num, Lib.hid HS.out.1, Lib.hid (by rw [List.length_set]; exact HL.out), Lib.hid (HG.out.trans HS.out.2)⟩
      case measure => simp [intOf]; omega
    · go_wp2
      go_ret
      have hkl : k = l.length := by omega
      exact ⟨by first | (simp [hkl]; done) | (simp; omega) | omega, HG.out⟩
theorem eqFw {b b' : Nat} {u v : Value} {xs : List Nat} {w : World} (hu : RW kf 32 w b u xs) (hv : RW kf 32 w b' v xs) (hm : xs.length ≤ 1048576) :
    Calls Try.prog 9 #[u, v] w fun e w' => e = .returned (.bool true) ∧ Below w.heap.size w w' := by
  obtain ⟨A, c, rfl, _, hA⟩ := RW.reads hu
  obtain ⟨B, c', rfl, _, hB⟩ := RW.reads hv
  exact eqF_any A B c c' xs w hA hB hm
theorem heldFw {b : Nat} {v : Value} {n : Nat} {m : Int} {w : World} (hv : RW kf 32 w b v (mks m n)) (hm : n ≤ 1048576) (h0 : 0 ≤ m) (h1 : m ≤ 1000000000) :
    Calls Try.prog 13 #[v, .int .i64 m] w fun e w' => e = .returned (.int .i64 (m + n)) ∧ w = w' := by
  obtain ⟨A, c, rfl, _, hA⟩ := RW.reads hv
  rw [mks_length] at hA ⊢
  exact heldF_any A c n m w hA hm h0 h1
theorem toI_any (A : Option Addr) (c : Nat) (l : List Int) (w : World) (hr : Kd.C ki16 w A l.length l) (hc : l.length ≤ c) (hm : l.length ≤ 1048576) :
    Calls Try.prog 7 #[.slice A l.length c] w fun e w' => ∃ A' c', e = .returned (.slice A' l.length c') ∧ RW ki16 40 w' w.heap.size (.slice A' l.length c') l ∧ Kd.C ki16 w' A' l.length l ∧ l.length ≤ c' ∧ Below w.heap.size w w' := by
  refine (toI16_any A c l w hr hc hm).mono ?_
  rintro e w' ⟨v, rfl, h, hb⟩
  obtain ⟨A', c', rfl, h1, h2⟩ := Kd.R_reads h
  exact ⟨A', c', rfl, h, h2, h1, hb⟩
end Go.Proofs.Ytidcnkjgbleoiaa
