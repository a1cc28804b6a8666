/- Boxes read from their texts: marks on rows of whole numbers; the law's walk. -/
import Derived.Test.YtdekolkngokmpaaDoorRbA
import Derived.Test.YtdekolkngokmpaaDoorBx2
namespace Go.Proofs.YtdekolkngokmpaaDoor
open Go.RowKit Ieee
open Go.Proofs.YtdekolkngokmpaaDoorW.PrintWords
set_option maxRecDepth 100000
attribute [local irreducible] wpRel
/-- n marks from k on. -/
def mkI (k : Int) (n : Nat) : List Int := (List.range n).map fun i : Nat => k + (i : Int)
theorem mkI_length (k : Int) (n : Nat) : (mkI k n).length = n := by simp [mkI]
theorem mkI_get (k : Int) {n i : Nat} (h : i < n) : (mkI k n)[i]? = some (k + (i : Int)) := by simp [mkI, h]
set_option maxHeartbeats 2000000 in
theorem markI16_any (v : Value) (l : List Int) (m : Int) (base : Nat) (w : World) (hr : Kd.R ki16 31 w base (fun _ => True) v l) (hm : l.length ≤ 1000) (h0 : 0 ≤ m) (h1 : m ≤ 1000) :
    Calls Tryd.prog 11 #[v, .int .i64 m] w fun e w' => e = .returned (.int .i64 (m + l.length)) ∧ Kd.R ki16 31 w' base (fun _ => True) v (mkI m l.length) ∧ w.grownBy w' v.ownBlock := by
  have HR := Lib.hid hr
  obtain ⟨A, c, hv, hc, _⟩ := Kd.R_reads hr
  subst hv
  clear hr
  go_enter Tryd.func11, Tryd.ntmps11
  go_wp2
  go_loopw [1, 5] (fun q i wr => ∃ k : Nat, ∃ ys : List Int, k ≤ l.length ∧ q = .int .i64 (m + k) ∧ i = .int .i64 k ∧ Hid (Kd.R ki16 31 wr base (fun _ => True) (.slice A l.length c) ys) ∧ Hid (ys.length = l.length) ∧ Hid (∀ j, j < k → ys[j]? = (mkI m l.length)[j]?) ∧ Hid (w.grownBy wr (Value.slice A l.length c).ownBlock)) (fun _ i _ => l.length - (intOf i).toNat)
  case atStart => exact ⟨0, l, Nat.zero_le _, by simp, rfl, HR, Lib.hid rfl, Lib.hid (fun j hj => absurd hj (by omega)), Lib.hid (World.grownBy.refl _ _)⟩
  case round =>
    obtain ⟨k, ys, hk, rfl, rfl, HR1, HL, HE, HG⟩ := hrel
    clear HR
    by_cases hlt : k < l.length
    · have hpos : 0 < ys.length := by have := HL.out; omega
      obtain ⟨g, cap, hv, hge, hglt, _⟩ := Kd.R_form HR1.out hpos
      obtain ⟨hA, _, hcap⟩ : A = some ⟨g, 0, none⟩ ∧ l.length = ys.length ∧ c = cap := by injection hv with a b c; exact ⟨a, b, c⟩
      subst hA
      clear hv hcap
      obtain ⟨ce, hcl, hM, hcc, hfr⟩ := Kd.R_elem HR1.out 0 (k : Int) (by omega) (by omega)
      obtain ⟨rfl, _, _⟩ := ki_openM hM
      have x0 : wr.cell? ⟨g, k, none⟩ = some (.int .i16 (ys.getD (k : Int).toNat 0)) := by have := hcc 0 _ rfl; rwa [show (k : Int).toNat * ki16.sz + 0 = k from by show k * 1 + 0 = k; omega] at this
      have f0 : wr.frozen? ⟨g, k, none⟩ = false := by have := hfr 0; rwa [show (k : Int).toNat * ki16.sz + 0 = k from by show k * 1 + 0 = k; omega] at this
      have HS0 := Kd.R_seg HR1.out (k : Int) (by omega) (by omega) (seg := [.int .i16 (m + k)]) (j := 0) hcl hcc (show 1 ≤ 1 from Nat.le_refl 1) (x' := m + k) (ki_mkM wr _ (fun q => True ∧ q ≠ g) (by omega) (by omega)) (fun _ h => h)
      have e1 : wr.setCells g ((k : Int).toNat * ki16.sz + 0) [.int .i16 (m + k)] = wr.setCell ⟨g, k, none⟩ (.int .i16 (m + k)) := by show wr.setCell ⟨g, k * 1 + 0, none⟩ _ = _; rw [show k * 1 + 0 = k from by omega]
      rw [e1] at HS0
      have HS := Lib.hid HS0
      have hyl : k < ys.length := by have := HL.out; omega
      have hw16 : IntKind.i16.wrap (m + (k : Int)) = m + (k : Int) := IntWalk.i16_in _ (by omega)
      clear hcl hM hcc hfr HS0 e1
      go_wp2
      clear hw16
      go_roundw
      case rel =>
        refine ⟨k + 1, ys.set k (m + k), by omega, by go_num, by go_num, Lib.hid HS.out.1, Lib.hid (by rw [List.length_set]; exact HL.out), Lib.hid (fun j hj => ?_), Lib.hid ?_⟩
        · rw [List.getElem?_set]
          by_cases hji : k = j
          · subst hji
            rw [if_pos rfl, if_pos hyl, mkI_get m hlt]
          · rw [if_neg hji]; exact HE.out j (by omega)
        · exact HG.out.trans HS.out.2
      case measure => simp [intOf]; omega
    · go_wp2
      go_ret
      have hkl : k = l.length := by omega
      have e : ys = mkI m l.length := List.ext_getElem? fun j => by
        by_cases hj : j < k
        · exact HE.out j hj
        · rw [List.getElem?_eq_none (by have := HL.out; omega), List.getElem?_eq_none (by rw [mkI_length]; omega)]
      refine ⟨by first | (simp [hkl]; done) | (simp; omega) | omega, ?_, HG.out⟩
      rw [← e]; exact HR1.out
set_option maxHeartbeats 2000000 in
theorem heldI16_any (A : Option Addr) (c n : Nat) (m : Int) (w : World) (hA : Kd.C ki16 w A n (mkI m n)) (hm : n ≤ 1000) (h0 : 0 ≤ m) (h1 : m ≤ 1000) :
    Calls Tryd.prog 12 #[.slice A n c, .int .i64 m] w fun e w' => e = .returned (.int .i64 (m + n)) ∧ Below w.heap.size w w' := by
  have HA : Hid (Kd.C ki16 w A n (mkI m n)) := Lib.hid hA
  clear hA
  go_enter Tryd.func12, Tryd.ntmps12
  go_wp2
  go_loopw [1, 5] (fun q i wr => ∃ k : Nat, k ≤ n ∧ q = .int .i64 (m + k) ∧ i = .int .i64 k ∧ Below w.heap.size w wr) (fun _ i _ => n - (intOf i).toNat)
  case atStart => exact ⟨0, Nat.zero_le _, by simp, rfl, Below.refl _ _⟩
  case round =>
    obtain ⟨k, hk, rfl, rfl, hb⟩ := hrel
    by_cases hlt : k < n
    · obtain ⟨b, off, rfl, hbl, c0, _, _⟩ := at_ki HA.out k hlt
      rw [List.getD_eq_getElem?_getD, mkI_get m hlt] at c0
      have d0 : wr.cell? ⟨b, off + k, none⟩ = some (.int .i16 (m + (k : Int))) := (bc hb b (off + k) hbl).trans c0
      have l0 : b < wr.heap.size := Nat.lt_of_lt_of_le hbl hb.size
      have hw16 : IntKind.i16.wrap (m + (k : Int)) = m + (k : Int) := IntWalk.i16_in _ (by omega)
      clear c0
      obtain ⟨wo, hwo⟩ : ∃ wo : World, wo = wr := ⟨_, rfl⟩
      subst hwo
      go_wp2
      first
        | (first | refine region_drewN (DIs (.bool true)) (by kernel_rfl) (by kernel_rfl) ?_ | refine region_drew (DIs (.bool true)) (by kernel_rfl) (by kernel_rfl) ?_
           repeat (first | (refine wpRel_plain rfl (fun K hK => ?_); intro w' hw'; obtain ⟨n', rfl⟩ := hw'; go_simp; refine ⟨Drew.mk _ _, hK _ ?_⟩; clear hK K n'))
           (refine wpRel_nil ?_; intro w' hw'; obtain ⟨nq, rfl⟩ := hw')
           clear hw16
           go_wp2)
        | (clear hw16)
      go_roundw
      case rel => exact ⟨k + 1, by omega, by go_num, by go_num, by first | exact bdrewN hb _ | exact hb⟩
      case measure => simp [intOf]; omega
    · go_wp2
      go_ret
      have hkl : k = n := by omega
      exact ⟨by first | (simp [hkl]; done) | (simp; omega) | omega, hb⟩
end Go.Proofs.YtdekolkngokmpaaDoor
