/- Boxes of wheels: their texts, the program's side and the law. -/
import Derived.Test.YtdekolkngokmpaaDoorBx3
namespace Go.Proofs.YtdekolkngokmpaaDoor
open Go.RowKit Ieee
open Go.Proofs.YtdekolkngokmpaaDoorW.PrintWords
set_option maxRecDepth 100000
attribute [local irreducible] wpRel
/-- The text of a box, or of none. -/
def bxV (l : List Int) : List UInt8 := if boxOk l then boxT l else []
theorem boxText_spec (A : Option Addr) (c : Nat) (l : List Int) (w : World) (hA : Kd.C ki16 w A l.length l) (hm : l.length ≤ 2000000) :
    Calls Tryd.prog 5 #[.slice A l.length c] w fun e w' => e = .returned (.string ⟨(bxV l).toArray⟩) ∧ Below w.heap.size w w' := by
  cases hk : boxOk l
  · have HO := Lib.hid (fun w hA => by have := l05Ok_any A c l w hA hm; rw [hk] at this; exact this)
    have HV := Lib.hid (show bxV l = [] by simp [bxV, hk])
    have HO2 := Lib.hid (HO.out w hA)
    clear HO hA hk
    go_enter Tryd.func5, Tryd.ntmps5
    go_wp2_with (first | (go_at_call 13; refine (HO2.out).mono ?_; rintro e w1 ⟨rfl, hb1⟩))
    go_ret
    exact ⟨by rw [HV.out]; rfl, hb1⟩
  · obtain ⟨ha, h2, h24⟩ := allT_of hk
    have HO2 := Lib.hid (show Calls Tryd.prog 13 #[.slice A l.length c] w fun e w' => e = .returned (.bool true) ∧ Below w.heap.size w w' by have := l05Ok_any A c l w hA hm; rw [hk] at this; exact this)
    have HV := Lib.hid (show bxV l = boxT l by simp [bxV, hk])
    have HT := Lib.hid (fun w1 (h : Below w.heap.size w w1) => l05Text_any A c l w1 (Kd.C_below hA h) (by omega) h24 ha)
    clear hA hk ha
    go_enter Tryd.func5, Tryd.ntmps5
    go_wp2_with (first | (go_at_call 13; refine (HO2.out).mono ?_; rintro e w1 ⟨rfl, hb1⟩) | (go_at_call 14; refine (HT.out _ hb1).mono ?_; rintro e w2 ⟨rfl, hb2⟩))
    go_ret
    exact ⟨by rw [HV.out]; rfl, bstep hb1 hb2⟩
set_option maxHeartbeats 2000000 in
theorem boxText_impl (A : Option Addr) (c : Nat) (l : List Int) (w : World) (hA : Kd.C ki16 w A l.length l) (hm : l.length ≤ 2000000) (ht : Lib.TabIs Tryd.prog w "internal/strconv.uint64pow10" .u64 Lib.pow10Tab) :
    Calls Tryd.prog 7 #[.slice A l.length c] w fun e w' => e = .returned (.string ⟨(bxV l).toArray⟩) ∧ Below w.heap.size w w' := by
  have HA := Lib.hid hA
  cases hk : boxOk l
  · have HO := Lib.hid (show Calls Tryd.prog 15 #[.slice A l.length c] w fun e w' => e = .returned (.bool false) ∧ w = w' by have := validBox_impl A c l w hA hm; rw [hk] at this; exact this)
    have HV := Lib.hid (show bxV l = [] by simp [bxV, hk])
    clear hA hk
    go_enter Tryd.func7, Tryd.ntmps7
    go_wp2_with (first | (go_at_call 15; refine (HO.out).mono ?_; rintro e w1 ⟨rfl, rfl⟩))
    go_ret
    exact ⟨by rw [HV.out]; rfl, Below.refl _ _⟩
  · obtain ⟨ha, h2, h24⟩ := allT_of hk
    have HO := Lib.hid (show Calls Tryd.prog 15 #[.slice A l.length c] w fun e w' => e = .returned (.bool true) ∧ w = w' by have := validBox_impl A c l w hA hm; rw [hk] at this; exact this)
    have HV := Lib.hid (show bxV l = boxT l by simp [bxV, hk])
    have HT := Lib.hid ha
    have HTab := Lib.hid ht
    have HR0 := Lib.hid (RW.empty (w := w.alloc (.cells #[] 9)) kS 9 w.heap.size w.heap.size (heap_alloc_new w _) (Nat.le_refl _))
    clear hA hk ha ht
    go_enter Tryd.func7, Tryd.ntmps7
    go_wp2_with (first | (go_at_call 15; refine (HO.out).mono ?_; rintro e w1 ⟨rfl, rfl⟩))
    go_loopw [3, 5, 12] (fun v _ i wr => ∃ k : Nat, k ≤ l.length ∧ i = .int .i64 k ∧ Hid (RW kS 9 wr w.heap.size v ((l.take k).map dcT)) ∧ Below w.heap.size w wr) (fun _ _ i _ => l.length - (intOf i).toNat)
    case atStart => exact ⟨0, Nat.zero_le _, rfl, HR0, balloc (Below.refl _ _) _⟩
    case round =>
      clear HR0 HO
      obtain ⟨k, hk, rfl, HR, hb⟩ := hrel
      by_cases hlt : k < l.length
      · obtain ⟨b, off, rfl, hbl, c0, g1, g2⟩ := at_ki HA.out k hlt
        have d0 := (bc hb b (off + k) hbl).trans c0
        have l0 : b < wr.heap.size := Nat.lt_of_lt_of_le hbl hb.size
        have x1 : (k : Int) < (l.length : Int) := by omega
        have x2 : (0 : Int) ≤ (k : Int) := by omega
        have HD := Lib.hid (dcI_any (l.getD k 0) (HT.out k hlt).1 (HT.out k hlt).2 wr (tab_below HTab.out hb))
        have HM := Lib.hid (show (l.take (k + 1)).map dcT = (l.take k).map dcT ++ [dcT (l.getD k 0)] by
          rw [List.take_succ_eq_append_getElem hlt, List.map_append, List.getD_eq_getElem?_getD, List.getElem?_eq_getElem hlt]; rfl)
        have HL := Lib.hid (show ((l.take k).map dcT).length ≤ 1048576 by rw [List.length_map, List.length_take]; omega)
        clear c0
        obtain ⟨x, hx⟩ : ∃ x, l.getD k 0 = x := ⟨_, rfl⟩
        rw [hx] at d0 g1 g2 HD HM
        clear hx
        obtain ⟨d, hd⟩ : ∃ d, dcT x = d := ⟨_, rfl⟩
        rw [hd] at HD HM
        clear hd
        go_wp2_with fail
        go_at_call 16
        refine (HD.out).mono ?_
        rintro e w2 ⟨rfl, hb2⟩
        have HR2 := Lib.hid (HR.out.below hb2)
        have hbb := bstep hb hb2
        go_wp2_with (at_builtin; go_must ((refine apSz w.heap.size (o := ⟨some 21, _, _, _, _, _⟩) rfl (.tmp 16) (.tmp 20) rfl u3 ((l.take k).map dcT) ?y21 ?x21 ?o21 ?b21 HL.out  ?_; (case y21 => rfl); (case x21 => go_simp); (case o21 => exact HR2.out); (case b21 => have := hbb.size ; simp ; omega); intro v21 w21 ho_ hg_ hat_; have HO21 := Lib.hid ho_; have HG21 := Lib.hid (And.intro hg_ hat_); clear ho_ hg_ hat_)))
        go_roundw
        case rel => exact ⟨k + 1, hlt, by go_num, Lib.hid (by rw [HM.out]; exact HO21.out), hbb.grown HG21.out.1 hbb.size (fun j hj => HR2.out.base_le j hj)⟩
        case measure => simp [intOf]; omega
      · obtain rfl : k = l.length := by omega
        rw [List.take_length] at HR
        obtain ⟨A', c', hv, hc', hC⟩ := RW.reads HR.out
        subst hv
        rw [List.length_map] at hC hc' ⊢
        obtain ⟨b', off', hA', hbl', _⟩ := at_kS hC 0 (by omega)
        subst hA'
        have HC := Lib.hid hC
        have HJ := Lib.hid (Tryd.strings_Join b' off' c' (l.map fun n => ⟨(dcT n).toArray⟩) ⟨#[32]⟩ wr (fun j x hx => by
          have hj : j < l.length := by have := (List.getElem?_eq_some_iff.1 hx).1; simpa using this
          obtain ⟨b2, off2, e2, _, c2⟩ := at_kS HC.out j hj
          injection e2 with e2
          injection e2 with e2 e3
          subst e2 e3
          rw [c2]
          rw [List.getElem?_map, List.getElem?_eq_getElem hj] at hx
          rw [List.getD_eq_getElem?_getD, List.getElem?_map, List.getElem?_eq_getElem hj]
          injection hx with hx
          rw [← hx]; rfl) hbl' (by rw [List.length_map]; omega) (by rw [List.length_map]; exact hc') (by
            have := boxT_len l HT.out l.length (Nat.le_refl _)
            rw [List.take_length] at this
            have e : (l.map fun n => (⟨(dcT n).toArray⟩ : ByteArray)).map (·.data.toList) = l.map dcT := by rw [List.map_map]; exact List.map_congr_left fun n _ => rfl
            rw [e]
            show (boxT l).length ≤ _
            omega))
        have HE := Lib.hid (show Lib.join ((l.map fun n => (⟨(dcT n).toArray⟩ : ByteArray)).map (·.data.toList)) (⟨#[32]⟩ : ByteArray).data.toList = boxT l by
          have e : (l.map fun n => (⟨(dcT n).toArray⟩ : ByteArray)).map (·.data.toList) = l.map dcT := by rw [List.map_map]; exact List.map_congr_left fun n _ => rfl
          rw [e]; rfl)
        rw [List.length_map, HE.out] at HJ
        clear hC hlt hbl'
        go_wp2_with (go_at_call 17; refine (HJ.out).mono ?_; rintro e w2 ⟨rfl, hb2⟩)
        go_ret
        exact ⟨by rw [HV.out]; rfl, bstep hb hb2⟩
set_option maxHeartbeats 1000000 in
theorem law_boxText (A : Option Addr) (c : Nat) (l : List Int) (hc : l.length ≤ c) (_hm : l.length ≤ 9223372036854775807) (w : World) (hA : Kd.C ki16 w A l.length l) (ht : Lib.TabIs Tryd.prog w "internal/strconv.uint64pow10" .u64 Lib.pow10Tab) :
    Calls Tryd.prog 3 #[.slice A l.length c] w fun e w' => e = .returned (.bool true) ∧ Below w.heap.size w w' := by
  by_cases hm : l.length ≤ 1048576
  · have HT := Lib.hid ht
    have HA := Lib.hid hA
    clear hA ht
    go_enter Tryd.func3, Tryd.ntmps3
    go_wp2_with fail
    go_at_call 6
    refine (toI16_any A c l w HA.out hc hm).mono ?_
    rintro e w1 ⟨v1, rfl, h1, hb1⟩
    obtain ⟨A1, c1, hv1, hc1, hC1⟩ := Kd.R_reads h1
    subst hv1
    clear h1
    have HC1 := Lib.hid hC1
    clear hC1
    go_wp2_with fail
    go_at_call 5
    refine (boxText_spec A1 c1 l w1 HC1.out (by omega)).mono ?_
    rintro e w2 ⟨rfl, hb2⟩
    have b2 := bstep hb1 hb2
    obtain ⟨t, htt⟩ : ∃ t, bxV l = t := ⟨_, rfl⟩
    rw [htt]
    have HV := Lib.hid htt
    clear htt
    go_wp2_with fail
    go_at_call 6
    refine (toI16_any A c l w2 (Kd.C_below HA.out b2) hc hm).mono ?_
    rintro e w3 ⟨v3, rfl, h3, hb3⟩
    have b3 := bstep b2 hb3
    obtain ⟨A3, c3, hv3, hc3, hC3⟩ := Kd.R_reads h3
    subst hv3
    clear h3
    have HC3 := Lib.hid hC3
    clear hC3
    have HI := Lib.hid (boxText_impl A3 c3 l w3 HC3.out (by omega) (tab_below HT.out b3))
    rw [HV.out] at HI
    go_wp2_with (go_at_call 7; refine (HI.out).mono ?_; rintro e w4 ⟨rfl, hb4⟩)
    have b4 := bstep b3 hb4
    have HC4 := Lib.hid (Kd.C_below HC3.out hb4)
    go_at_call 6
    refine (toI16_any A c l w4 (Kd.C_below HA.out b4) hc hm).mono ?_
    rintro e w5 ⟨v5, rfl, h5, hb5⟩
    have b5 := bstep b4 hb5
    obtain ⟨A5, c5, hv5, hc5, hC5⟩ := Kd.R_reads h5
    subst hv5
    clear h5
    have HC5 := Lib.hid hC5
    have HC45 := Lib.hid (Kd.C_below HC4.out hb5)
    clear hC5
    go_wp2_with fail
    go_at_call 8
    refine (eqI16_any A3 A5 c3 c5 l w5 HC45.out HC5.out hm).mono ?_
    rintro e w6 ⟨rfl, hb6⟩
    go_wp2
    go_ret
    exact ⟨rfl, bstep b5 hb6⟩
  · go_enter Tryd.func3, Tryd.ntmps3
    go_wp2
    go_ret
    exact ⟨rfl, Below.refl _ _⟩
end Go.Proofs.YtdekolkngokmpaaDoor
