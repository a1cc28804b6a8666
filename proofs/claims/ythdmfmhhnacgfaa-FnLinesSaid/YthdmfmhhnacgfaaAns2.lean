/- The answers of a line: the reference's walk; what both hand back. -/
import Derived.Test.YthdmfmhhnacgfaaAns
namespace Go.Proofs.Ythdmfmhhnacgfaa
open Go.RowKit Ieee
open Go.Proofs.YthdmfmhhnacgfaaW.PrintWords
set_option maxRecDepth 100000

theorem at_FR {w : World} {base : Nat} {v : Value} {xs : List Nat} (h : FR w base v xs) (n : Nat) (hn : xs.length = n) (i : Nat) (hi : i < n) :
    ∃ g c r, v = .slice (some ⟨g, 0, none⟩) n c ∧ g < w.heap.size ∧ w.cell? ⟨g, i, none⟩ = some (.float .f32 r) ∧ FV r (xs.getD i 0) := by
  subst hn
  obtain ⟨g, c, e, _, hg, _⟩ := Kd.R_form h.out (by omega)
  subst e
  obtain ⟨ce, hcl, hM, hcc, _⟩ := Kd.R_elem h.out 0 (i : Int) (by omega) (by omega)
  obtain ⟨r, rfl, hr⟩ := kf_openM hM
  have := hcc 0 _ rfl
  rw [show (i : Int).toNat * kf.sz + 0 = i from by show i * 1 + 0 = i; omega] at this
  exact ⟨g, c, r, rfl, hg, this, hr⟩
theorem swL_get (l : List (Nat × Nat)) (q : Nat) {n i : Nat} (h : i < n) : (swL l q n).getD i 0 = (ans l q i).1 := by simp [swL, List.getD_eq_getElem?_getD, h]
theorem twL_get (l : List (Nat × Nat)) (q : Nat) {n i : Nat} (h : i < n) : (twL l q n).getD i 0 = (ans l q i).2 := by simp [twL, List.getD_eq_getElem?_getD, h]
/-- One float written out as a row. -/
theorem FR.one {w : World} (base g : Nat) {r p : Nat} (hp : FV r p) (h : w.heap[g]? = some (.cells #[.float .f32 r] 26 (0, 0))) (hb : base ≤ g) : FR w base (.slice (some ⟨g, 0, none⟩) 1 1) [p] :=
  ⟨fun _ _ => trivial, [.float .f32 r], ⟨rfl, .inr ⟨g, 1, #[.float .f32 r], rfl, hb, h, Nat.le_refl _, by decide, rfl, rfl⟩⟩, by
    refine ⟨rfl, fun j u hu => ?_⟩
    match j, hu with
    | 0, hu => simp at hu; subst hu; exact ⟨r, rfl, hp⟩⟩

set_option maxHeartbeats 8000000 in
theorem answer_spec (A : Option Addr) (c : Nat) (l : List (Nat × Nat)) (q : Nat) (w : World) (hA : Kd.C kD w A l.length l) (h0 : 0 < l.length) (hm : l.length ≤ 1048576) :
    Calls Try.prog 22 #[.slice A l.length c, .float .f32 q] w (AnsQ l (cn q) w) := by
  have HA : Hid (Kd.C kD w A l.length l) := Lib.hid hA
  clear hA
  obtain ⟨b, off, r, s, rfl, hbl, c0, c1, hr, hs⟩ := at_kD HA.out 0 h0
  simp only [Nat.zero_mul, Nat.add_zero] at c0 c1
  have HI := Lib.hid hr.1
  clear c1 hs hr
  go_enter Try.func22, Try.ntmps22
  go_wp2_with (first | (refine wpList_fop (o := ⟨some 17, _, _, _, _, _⟩) rfl rfl (by first | exact .inl rfl | exact .inr (.inl rfl) | exact .inr (.inr (.inl rfl)) | exact .inr (.inr (.inr rfl))) rfl rfl ?_; intro r17 n17 h17) | ((refine wpList_fop (o := ⟨some 18, _, _, _, _, _⟩) rfl rfl (by first | exact .inl rfl | exact .inr (.inl rfl) | exact .inr (.inr (.inl rfl)) | exact .inr (.inr (.inr rfl))) rfl rfl ?_; intro r18 n18 h18); have hv0 : FV r18 (ans l (cn q) 0).2 := (by rw [h17.1, HI.out] at h18; rw [cn_zero'] at h18; exact h18); have HV0 := Lib.hid hv0; clear hv0 h17 h18))
  clear c0
  go_loopw [6, 7, 8] (fun v1 v2 i wr => ∃ k : Nat, 1 ≤ k ∧ k ≤ l.length ∧ i = .int .i64 k ∧ Hid (FR wr w.heap.size v1 (swL l (cn q) k)) ∧ Hid (FR wr w.heap.size v2 (twL l (cn q) k)) ∧ Hid (NE v1 v2) ∧ Below w.heap.size w wr) (fun _ _ i _ => l.length - (intOf i).toNat)
  case atStart => exact ⟨1, Nat.le_refl _, h0, rfl, Lib.hid (((FR.one (w := w.alloc (.cells #[.float .f32 1065353216] 26)) w.heap.size w.heap.size (p := 1065353216) FV_one (heap_alloc_new w _) (Nat.le_refl _)).drewN _).alloc _), Lib.hid (FR.one w.heap.size (w.heap.size + 1) HV0.out (by have := heap_alloc_new ((w.alloc (.cells #[.float .f32 1065353216] 26)).drewN (n17 + n18)) (.cells #[.float .f32 r18] 26); simpa using this) (Nat.le_succ _)), Lib.hid (fun k hk he => by simp [Value.ownBlock] at hk he; omega), by (repeat (first | with_reducible exact Below.refl _ _ | with_reducible refine bset ?_ (by first | (simp; done) | (simp; omega) | omega) _ | with_reducible refine balloc ?_ _ | with_reducible refine bdrewN ?_ _ | with_reducible refine bdrew ?_ | with_reducible refine bstep ?_ (by assumption)))⟩
  case round =>
    obtain ⟨k, hk1, hk, rfl, H1, H2, HN, hb⟩ := hrel
    clear HV0
    obtain ⟨j, rfl⟩ : ∃ j, k = j + 1 := ⟨k - 1, by omega⟩
    by_cases hlt : j + 1 < l.length
    · obtain ⟨b1, off1, r, s, hA1, _, c0, c1, hr, hs⟩ := at_kD HA.out (j + 1) hlt
      cases hA1
      obtain ⟨b', off', r', s', hA', _, c0', c1', hr', hs'⟩ := at_kD HA.out j (by omega)
      cases hA'
      have d0 := (bc hb b (off + (j + 1) * 2) hbl).trans c0
      have d1' := (bc hb b (off + j * 2 + 1) hbl).trans c1'
      obtain ⟨g1, cc1, x1, rfl, hg1, e1, hx1⟩ := at_FR H1.out (j + 1) (swL_length _ _ _) j (by omega)
      obtain ⟨g2, cc2, x2, rfl, hg2, e2, hx2⟩ := at_FR H2.out (j + 1) (twL_length _ _ _) j (by omega)
      rw [swL_get _ _ (by omega)] at hx1
      rw [twL_get _ _ (by omega)] at hx2
      have HO8 := Lib.hid hx1.1
      have HT := Lib.hid hx2.1
      have HI2 := Lib.hid hr.1
      have HSj := Lib.hid hs'.1
      have l0 : b < wr.heap.size := Nat.lt_of_lt_of_le hbl hb.size
      have hlt2 : (j : Int) + 1 < (l.length : Int) := by omega
      have HL1 := Lib.hid (show (swL l (cn q) (j + 1)).length ≤ 1048576 by rw [swL_length]; omega)
      have HL2 := Lib.hid (show (twL l (cn q) (j + 1)).length ≤ 1048576 by rw [twL_length]; omega)
      clear c0 c1 c0' c1' hr hs hr' hs' hx1 hx2
      obtain ⟨wo, hwo⟩ : ∃ wo : World, wo = wr := ⟨_, rfl⟩
      subst hwo
      go_wp2
      have hj1 : (j : Int) < (j : Int) + 1 := by omega
      have hj2 : (j : Int) < (l.length : Int) := by omega
      have hw1 : IntKind.i64.wrap (j : Int) = (j : Int) := IntWalk.i64_in _ (by omega)
      have hw2 : IntKind.i64.wrap (((j + 1 : Nat) : Int) - 1) = (j : Int) := by rw [show (((j + 1 : Nat) : Int) - 1) = (j : Int) from by omega]; exact hw1
      have hw3 : IntKind.i64.wrap ((j : Int) + 1 - 1) = (j : Int) := by rw [show ((j : Int) + 1 - 1) = (j : Int) from by omega]; exact hw1
      first | refine region_drewN (DIs (.bool true)) (by kernel_rfl) (by kernel_rfl) ?_ | refine region_drew (DIs (.bool true)) (by kernel_rfl) (by kernel_rfl) ?_
      repeat (first | (refine wpRel_plain (o := ⟨some 42, _, _, _, _, _⟩) rfl (fun K hK => ?_); refine relOp_fop (drewN_Drew_closed _) rfl (by first | exact .inl rfl | exact .inr (.inl rfl) | exact .inr (.inr (.inl rfl)) | exact .inr (.inr (.inr rfl))) rfl rfl (fun r42 h42 => hK _ ?_); clear hK K) | (refine wpRel_plain (o := ⟨some 43, _, _, _, _, _⟩) rfl (fun K hK => ?_); refine relOp_fop (drewN_Drew_closed _) rfl (by first | exact .inl rfl | exact .inr (.inl rfl) | exact .inr (.inr (.inl rfl)) | exact .inr (.inr (.inr rfl))) rfl rfl (fun r43 h43 => hK _ ?_); clear hK K) | (refine wpRel_plain rfl (fun K hK => ?_); intro w' hw'; obtain ⟨n', rfl⟩ := hw'; go_simp; refine ⟨Drew.mk _ _, hK _ ?_⟩; clear hK K n'))
      (refine wpRel_nil ?_; intro w' hw'; obtain ⟨nq, rfl⟩ := hw')
      clear hw1 hw2 hw3
      have hv1 : FV r43 (ans l (cn q) (j + 1)).1 := by rw [h42.1, HO8.out, HT.out, HSj.out] at h43; exact h43
      have HV1 := Lib.hid hv1
      clear hv1 h42 h43
      go_wp2_with (first | (refine wpList_fop (o := ⟨some 50, _, _, _, _, _⟩) rfl rfl (by first | exact .inl rfl | exact .inr (.inl rfl) | exact .inr (.inr (.inl rfl)) | exact .inr (.inr (.inr rfl))) rfl rfl ?_; intro r50 n50 h50) | (refine wpList_fop (o := ⟨some 52, _, _, _, _, _⟩) rfl rfl (by first | exact .inl rfl | exact .inr (.inl rfl) | exact .inr (.inr (.inl rfl)) | exact .inr (.inr (.inr rfl))) rfl rfl ?_; intro r52 n52 h52) | (at_builtin; (refine apF2 (w0 := w) (o := ⟨some 56, _, _, _, _, _⟩) rfl (.tmp 53) (.tmp 55) rfl (.slice (some ⟨g1, 0, none⟩) (j + 1) cc1) (.slice (some ⟨g2, 0, none⟩) (j + 1) cc2) (swL l (cn q) (j + 1)) (twL l (cn q) (j + 1)) ((ans l (cn q) (j + 1)).1) r43 ?y56 ?x56 HV1.out ?o56 ?u56 HN.out.symm ?b56 HL1.out ?_; (case y56 => rfl); (case x56 => go_simp); (case o56 => (with_reducible repeat (first | apply FR.alloc | apply FR.drewN | apply FR.drew)); exact H1.out); (case u56 => (with_reducible repeat (first | apply FR.alloc | apply FR.drewN | apply FR.drew)); exact H2.out); (case b56 => (repeat (first | with_reducible exact Below.refl _ _ | with_reducible refine bset ?_ (by first | (simp; done) | (simp; omega) | omega) _ | with_reducible refine balloc ?_ _ | with_reducible refine bdrewN ?_ _ | with_reducible refine bdrew ?_ | with_reducible refine bstep ?_ (by assumption)))); intro v56 w56 ho_ hu_ ne_ hb56; have HO56 := Lib.hid ho_; have HU56 := Lib.hid hu_; have NE56 := Lib.hid ne_; clear ho_ hu_ ne_); obtain ⟨g3, cc3, x3, e3, hg3, e2', hx3⟩ := at_FR HU56.out (j + 1) (twL_length _ _ _) j (Nat.lt_succ_self j); cases e3; rw [twL_get _ _ (Nat.lt_succ_self j)] at hx3; have HT3 := Lib.hid hx3.1; clear hx3 e1 e2 d0 d1' hg1 hg2) | ((refine wpList_fop (o := ⟨some 64, _, _, _, _, _⟩) rfl rfl (by first | exact .inl rfl | exact .inr (.inl rfl) | exact .inr (.inr (.inl rfl)) | exact .inr (.inr (.inr rfl))) rfl rfl ?_; intro r64 n64 h64); have hv2 : FV r64 (ans l (cn q) (j + 1)).2 := (by rw [h52.1, h50.1, HV1.out.1, HT3.out, HI2.out] at h64; exact h64); have HV2 := Lib.hid hv2; clear hv2 h50 h52 h64) | (at_builtin; go_must ((refine apF2 (w0 := w) (o := ⟨some 66, _, _, _, _, _⟩) rfl (.tmp 57) (.tmp 65) rfl (.slice (some ⟨g2, 0, none⟩) (j + 1) cc2) v56 (twL l (cn q) (j + 1)) (swL l (cn q) (j + 1) ++ [(ans l (cn q) (j + 1)).1]) ((ans l (cn q) (j + 1)).2) r64 ?y66 ?x66 HV2.out ?o66 ?u66 NE56.out.symm ?b66 HL2.out ?_; (case y66 => rfl); (case x66 => go_simp); (case o66 => (with_reducible repeat (first | apply FR.alloc | apply FR.drewN | apply FR.drew)); exact HU56.out); (case u66 => (with_reducible repeat (first | apply FR.alloc | apply FR.drewN | apply FR.drew)); exact HO56.out); (case b66 => (repeat (first | with_reducible exact Below.refl _ _ | with_reducible refine bset ?_ (by first | (simp; done) | (simp; omega) | omega) _ | with_reducible refine balloc ?_ _ | with_reducible refine bdrewN ?_ _ | with_reducible refine bdrew ?_ | with_reducible refine bstep ?_ (by assumption)))); intro v66 w66 ho_ hu_ ne_ hb66; have HO66 := Lib.hid ho_; have HU66 := Lib.hid hu_; have NE66 := Lib.hid ne_; clear ho_ hu_ ne_))))
      go_roundw
      case rel => exact ⟨j + 1 + 1, by omega, hlt, by go_num, Lib.hid (by rw [swL_succ]; exact HU66.out), Lib.hid (by rw [twL_succ]; exact HO66.out), Lib.hid NE66.out, hb66⟩
      case measure => simp [intOf]; omega
    · obtain ⟨k, rfl⟩ : ∃ k, k = l.length := ⟨_, rfl⟩
      have hkl : j + 1 = l.length := by omega
      rw [hkl] at H1 H2
      go_wp2
      go_ret2
      exact ⟨_, _, rfl, H1.out, H2.out, HN.out, hb⟩
end Go.Proofs.Ythdmfmhhnacgfaa
