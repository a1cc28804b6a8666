/- The text of a tooth: its parts. -/
import Derived.Test.YtljcjgliddhgkaaDoorHexC
import Derived.Test.YtljcjgliddhgkaaDoorKs
import Derived.Test.YtljcjgliddhgkaaDoorShelf
import Derived.Test.YtljcjgliddhgkaaDoorTxt
import Derived.Test.YtljcjgliddhgkaaDoorAp
import Derived.Test.YtljcjgliddhgkaaDoorDrwA
namespace Go.Proofs.YtljcjgliddhgkaaDoor
open Go.RowKit Ieee
open Go.Proofs.YtljcjgliddhgkaaDoorW.PrintWords
set_option maxRecDepth 100000
attribute [local irreducible] wpRel
theorem decimal_any (i : Nat) (hi : i < 100) (w : World) : Calls Tryd.prog 29 #[.int .i64 (i : Int)] w fun e w' => e = .returned (.string ⟨(Go.Lib.decDigits i).toArray⟩) ∧ w = w' := by
  go_enter Tryd.func29, Tryd.ntmps29
  go_wp2_with (go_at_call 58; refine (Tryd.strconv_FormatInt_10_small i hi _).mono ?_; rintro e w' ⟨rfl, rfl⟩)
  go_ret
  exact ⟨rfl, rfl⟩
theorem decDigits_0 : Go.Lib.decDigits 0 = [48] := Go.Lib.decDigits_one (by decide)
theorem decDigits_1 : Go.Lib.decDigits 1 = [49] := Go.Lib.decDigits_one (by decide)
theorem conv_new (w : World) (b : UInt8) : (convert 35 9 (.slice (some ⟨w.heap.size, 0, none⟩) 1 1)).run Tryd.prog (w.alloc (.cells #[.int .u8 (b.toNat : Int)] 5)) = .ok (.string ⟨#[b]⟩) (w.alloc (.cells #[.int .u8 (b.toNat : Int)] 5)) :=
  run_convert_bytes_back (P := Tryd.prog) _ 35 9 5 ⟨w.heap.size, 0, none⟩ 1 [b] Tryd.underlying35 Tryd.underlying5 Tryd.underlying9 (fun j hj => by
    have hj0 : j = 0 := by simpa using hj
    subst hj0
    exact World.cell?_alloc_at _ _ _ _ rfl)
theorem decimalS_0 (w : World) : Calls Tryd.prog 55 #[.int .i64 0] w fun e w' => e = .returned (.string ⟨#[48]⟩) ∧ Below w.heap.size w w' := by
  have hc := fun w => conv_new w 48
  simp only [show ((48 : UInt8).toNat : Int) = 48 by decide] at hc
  go_enter Tryd.func55, Tryd.ntmps55
  go_wp2
  go_ret
  exact ⟨rfl, balloc (Below.refl _ _) _⟩
theorem decimalS_1 (w : World) : Calls Tryd.prog 55 #[.int .i64 1] w fun e w' => e = .returned (.string ⟨#[49]⟩) ∧ Below w.heap.size w w' := by
  have hc := fun w => conv_new w 49
  simp only [show ((49 : UInt8).toNat : Int) = 49 by decide] at hc
  go_enter Tryd.func55, Tryd.ntmps55
  go_wp2
  go_ret
  exact ⟨rfl, balloc (Below.refl _ _) _⟩
theorem join_len (xs : List Nat) (c : UInt8) : (Go.Lib.join (xs.map hexL) [c]).length ≤ 9 * xs.length := by
  induction xs with
  | nil => simp [Go.Lib.join]
  | cons x l ih =>
    cases l with
    | nil => simp [Go.Lib.join, List.intercalate, List.intersperse, hexL_length]
    | cons y l =>
      have e : Go.Lib.join ((x :: y :: l).map hexL) [c] = hexL x ++ c :: Go.Lib.join ((y :: l).map hexL) [c] := by simp [Go.Lib.join, List.intercalate, List.intersperse]
      rw [e, List.length_append, hexL_length, List.length_cons]
      simp only [List.length_cons] at ih ⊢
      omega
set_option maxHeartbeats 4000000 in
theorem texts_any (A : Option Addr) (c n : Nat) (xs : List Nat) (s : UInt8) (w : World) (hn1 : xs.length = n) (hA : Kd.C kf w A n xs) (hn : n ≤ 1000) (h0 : 1 ≤ n) :
    Calls Tryd.prog 28 #[.string ⟨#[s]⟩, .slice A n c] w fun e w' => e = .returned (.string ⟨(Go.Lib.join (xs.map hexL) [s]).toArray⟩) ∧ Below w.heap.size w w' := by
  have HA := Lib.hid hA
  have HN := Lib.hid hn1
  clear hA hn1
  have HR0 := Lib.hid (RW.empty (w := w.alloc (.cells #[] 9)) kS 9 w.heap.size w.heap.size (heap_alloc_new w _) (Nat.le_refl _))
  go_enter Tryd.func28, Tryd.ntmps28
  go_wp2
  go_loopw [5, 11] (fun v i wr => ∃ k : Nat, k ≤ n ∧ i = .int .i64 (k : Nat) ∧ Hid (RW kS 9 wr w.heap.size v ((xs.take k).map hexL)) ∧ Below w.heap.size w wr) (fun _ i _ => n - (intOf i).toNat)
  case atStart => exact ⟨0, Nat.zero_le _, rfl, HR0, balloc (Below.refl _ _) _⟩
  case round =>
    clear HR0
    obtain ⟨k, hk, rfl, HR, hb⟩ := hrel
    by_cases hlt : k < n
    · obtain ⟨b, off, r, rfl, hbl, c0, hr⟩ := at_kf HA.out k hlt
      have d0 := (bc hb b (off + k) hbl).trans c0
      have x1 : (k : Int) < (n : Int) := by omega
      have x2 : (0 : Int) ≤ (k : Int) := by omega
      have HF := Lib.hid hr
      have HL := Lib.hid (show ((xs.take k).map hexL).length ≤ 1048576 by rw [List.length_map, List.length_take]; omega)
      clear c0 hr
      go_wp2_with fail
      go_at_call 56
      refine (numberText_impl r _ HF.out _).mono ?_
      rintro e w2 ⟨rfl, hb2⟩
      have HR2 := Lib.hid (HR.out.below hb2)
      have hbb := bstep hb hb2
      go_wp2_with (at_builtin; go_must ((refine apSb w.heap.size (o := ⟨some 19, _, _, _, _, _⟩) rfl (.tmp 15) (.tmp 18) rfl u5 ((xs.take k).map hexL) ?y19 ?x19 ?o19 ?b19 HL.out  ?_; (case y19 => rfl); (case x19 => go_simp); (case o19 => exact HR2.out); (case b19 => have := hbb.size ; simp ; omega); intro v19 w19 ho_ hg_ hat_; have HO19 := Lib.hid ho_; have HG19 := Lib.hid (And.intro hg_ hat_); clear ho_ hg_ hat_)))
      go_roundw
      case rel =>
        refine ⟨k + 1, hlt, by go_num, Lib.hid ?_, hbb.grown HG19.out.1 hbb.size (fun j hj => HR2.out.base_le j hj)⟩
        have e : (xs.take (k + 1)).map hexL = (xs.take k).map hexL ++ [hexL (xs.getD k 0)] := by
          have hkx : k < xs.length := by have := HN.out; omega
          rw [List.take_succ_eq_append_getElem hkx, List.map_append, List.getD_eq_getElem?_getD, List.getElem?_eq_getElem hkx]; rfl
        rw [e]
        exact HO19.out
      case measure => simp [intOf]; omega
    · obtain rfl : k = n := by omega
      have htk : xs.take k = xs := List.take_of_length_le (by have := HN.out; omega)
      rw [htk] at HR
      obtain ⟨A2, c2, hv, hc2, hC2⟩ := HR.out.reads
      have hl2 : (xs.map hexL).length = k := by rw [List.length_map]; exact HN.out
      have hv' : u5 = .slice A2 (xs.map hexL).length c2 := hv
      have hC' : Kd.C kS wr A2 (xs.map hexL).length (xs.map hexL) := hC2
      rw [hl2] at hv' hC'
      subst hv'
      obtain ⟨b, off, _, e, hbb, _, _, _⟩ := C_at hC' (show 0 < kS.sz by decide) [] 0 (by omega)
      subst e
      have hcells : ∀ (j : Nat) x, (xs.map fun x => (⟨(hexL x).toArray⟩ : ByteArray))[j]? = some x → wr.cell? ⟨b, off + j, none⟩ = some (.string x) := fun j x hx => by
        have hj : j < xs.length := by have := (List.getElem?_eq_some_iff.1 hx).1; simpa using this
        obtain ⟨b', off', cs, e, _, _, hK, hc⟩ := C_at hC' (show 0 < kS.sz by decide) [] j (by have := HN.out; omega)
        injection e with e
        injection e with e1 e2
        subst e1 e2
        have hK' : cs = [.string ⟨((xs.map hexL).getD j []).toArray⟩] := hK
        subst hK'
        have h1 := hc 0 _ rfl
        rw [show off + j * kS.sz + 0 = off + j from by show off + j * 1 + 0 = _; omega] at h1
        rw [h1]
        rw [List.getElem?_map, List.getElem?_eq_getElem hj] at hx
        rw [List.getD_eq_getElem?_getD, List.getElem?_map, List.getElem?_eq_getElem hj]
        simp at hx ⊢
        exact hx
      have hj := Tryd.strings_Join b off c2 (xs.map fun x => (⟨(hexL x).toArray⟩ : ByteArray)) ⟨#[s]⟩ wr hcells hbb (by rw [List.length_map]; have := HN.out; omega) (by rw [List.length_map]; have := HN.out; have h3 := hc2; rw [hl2] at h3; omega) (by
        have e : (xs.map fun x => (⟨(hexL x).toArray⟩ : ByteArray)).map (·.data.toList) = xs.map hexL := by rw [List.map_map]; rfl
        rw [e]
        have := join_len xs s
        have := HN.out
        show (Go.Lib.join (xs.map hexL) [s]).length ≤ _
        omega)
      have e : (xs.map fun x => (⟨(hexL x).toArray⟩ : ByteArray)).map (·.data.toList) = xs.map hexL := by rw [List.map_map]; rfl
      rw [e, List.length_map, HN.out] at hj
      have HJ := Lib.hid hj
      clear hj e hcells hC' hC2 hv
      go_wp2_with (go_at_call 57; refine (HJ.out).mono ?_; rintro e w2 ⟨rfl, hb2⟩)
      go_ret
      exact ⟨rfl, bstep hb hb2⟩
end Go.Proofs.YtljcjgliddhgkaaDoor
