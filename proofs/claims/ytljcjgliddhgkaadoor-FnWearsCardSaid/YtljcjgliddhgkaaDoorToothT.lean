/- The text of a tooth: its parts. The text of a tooth, as both sides write it. The text of a tooth or of none: the model's side. The text of a tooth or of none: the program's side. -/
import Derived.Test.YtljcjgliddhgkaaDoorHex
import Derived.Test.YtljcjgliddhgkaaDoorKs
import Derived.Test.YtljcjgliddhgkaaDoorShelf
import Derived.Test.YtljcjgliddhgkaaDoorAp
import Derived.Test.YtljcjgliddhgkaaDoorDrwA
import Derived.Test.YtljcjgliddhgkaaDoorTooth4
namespace Go.Proofs.YtljcjgliddhgkaaDoor
open Go.RowKit Ieee
open Go.Proofs.YtljcjgliddhgkaaDoorW.PrintWords
set_option maxRecDepth 100000
attribute [local irreducible] wpRel
theorem decimal_any (i : Nat) (hi : i < 100) (w : World) : Calls Tryd.prog 29 #[.int .i64 (i : Int)] w fun e w' => e = .returned (.string ⟨(Go.Lib.decDigits i).toArray⟩) ∧ w = w' := by
  go_enter Tryd.func29, Tryd.ntmps29
  go_wp2_with (go_at_call 58; refine (Tryd.strconv_FormatInt_10_small i hi _).mono ?_; rintro e w' ⟨rfl, rfl⟩)
  go_ret
  exact ⟨rfl, rfl⟩
theorem decDigits_0 : Go.Lib.decDigits 0 = [48] := Go.Lib.decDigits_one (by decide)
theorem decDigits_1 : Go.Lib.decDigits 1 = [49] := Go.Lib.decDigits_one (by decide)
theorem conv_new (w : World) (b : UInt8) : (convert 35 9 (.slice (some ⟨w.heap.size, 0, none⟩) 1 1)).run Tryd.prog (w.alloc (.cells #[.int .u8 (b.toNat : Int)] 5)) = .ok (.string ⟨#[b]⟩) (w.alloc (.cells #[.int .u8 (b.toNat : Int)] 5)) :=
  run_convert_bytes_back (P := Tryd.prog) _ 35 9 5 ⟨w.heap.size, 0, none⟩ 1 [b] Tryd.underlying35 Tryd.underlying5 Tryd.underlying9 (fun j hj => by
    have hj0 : j = 0 := by simpa using hj
    subst hj0
    exact World.cell?_alloc_at _ _ _ _ rfl)
theorem decimalS_0 (w : World) : Calls Tryd.prog 55 #[.int .i64 0] w fun e w' => e = .returned (.string ⟨#[48]⟩) ∧ Below w.heap.size w w' := by
  have hc := fun w => conv_new w 48
  simp only [show ((48 : UInt8).toNat : Int) = 48 by decide] at hc
  go_enter Tryd.func55, Tryd.ntmps55
  go_wp2
  go_ret
  exact ⟨rfl, balloc (Below.refl _ _) _⟩
theorem decimalS_1 (w : World) : Calls Tryd.prog 55 #[.int .i64 1] w fun e w' => e = .returned (.string ⟨#[49]⟩) ∧ Below w.heap.size w w' := by
  have hc := fun w => conv_new w 49
  simp only [show ((49 : UInt8).toNat : Int) = 49 by decide] at hc
  go_enter Tryd.func55, Tryd.ntmps55
  go_wp2
  go_ret
  exact ⟨rfl, balloc (Below.refl _ _) _⟩
theorem join_len (xs : List Nat) (c : UInt8) : (Go.Lib.join (xs.map hexL) [c]).length ≤ 9 * xs.length := by
  induction xs with
  | nil => simp [Go.Lib.join]
  | cons x l ih =>
    cases l with
    | nil => simp [Go.Lib.join, List.intercalate, List.intersperse, hexL_length]
    | cons y l =>
      have e : Go.Lib.join ((x :: y :: l).map hexL) [c] = hexL x ++ c :: Go.Lib.join ((y :: l).map hexL) [c] := by simp [Go.Lib.join, List.intercalate, List.intersperse]
      rw [e, List.length_append, hexL_length, List.length_cons]
      simp only [List.length_cons] at ih ⊢
      omega
set_option maxHeartbeats 4000000 in
theorem texts_any (A : Option Addr) (c n : Nat) (xs : List Nat) (s : UInt8) (w : World) (hn1 : xs.length = n) (hA : Kd.C kf w A n xs) (hn : n ≤ 1000) (h0 : 1 ≤ n) :
    Calls Tryd.prog 28 #[.string ⟨#[s]⟩, .slice A n c] w fun e w' => e = .returned (.string ⟨(Go.Lib.join (xs.map hexL) [s]).toArray⟩) ∧ Below w.heap.size w w' := by
  have HA := Lib.hid hA
  have HN := Lib.hid hn1
  clear hA hn1
  have HR0 := Lib.hid (RW.empty (w := w.alloc (.cells #[] 9)) kS 9 w.heap.size w.heap.size (heap_alloc_new w _) (Nat.le_refl _))
  go_enter Tryd.func28, Tryd.ntmps28
  go_wp2
  go_loopw [5, 11] (fun v i wr => ∃ k : Nat, k ≤ n ∧ i = .int .i64 (k : Nat) ∧ Hid (RW kS 9 wr w.heap.size v ((xs.take k).map hexL)) ∧ Below w.heap.size w wr) (fun _ i _ => n - (intOf i).toNat)
  case atStart => exact ⟨0, Nat.zero_le _, rfl, HR0, balloc (Below.refl _ _) _⟩
  case round =>
    clear HR0
    obtain ⟨k, hk, rfl, HR, hb⟩ := hrel
    by_cases hlt : k < n
    · obtain ⟨b, off, r, rfl, hbl, c0, hr⟩ := at_kf HA.out k hlt
      have d0 := (bc hb b (off + k) hbl).trans c0
      have x1 : (k : Int) < (n : Int) := by omega
      have x2 : (0 : Int) ≤ (k : Int) := by omega
      have HF := Lib.hid hr
      have HL := Lib.hid (show ((xs.take k).map hexL).length ≤ 1048576 by rw [List.length_map, List.length_take]; omega)
      clear c0 hr
      go_wp2_with fail
      go_at_call 56
      refine (numberText_impl r _ HF.out _).mono ?_
      rintro e w2 ⟨rfl, hb2⟩
      have HR2 := Lib.hid (HR.out.below hb2)
      have hbb := bstep hb hb2
      go_wp2_with (at_builtin; go_must ((refine apSb w.heap.size (o := ⟨some 19, _, _, _, _, _⟩) rfl (.tmp 15) (.tmp 18) rfl u5 ((xs.take k).map hexL) ?y19 ?x19 ?o19 ?b19 HL.out  ?_; (case y19 => rfl); (case x19 => go_simp); (case o19 => exact HR2.out); (case b19 => have := hbb.size ; simp ; omega); intro v19 w19 ho_ hg_ hat_; have HO19 := Lib.hid ho_; have HG19 := Lib.hid (And.intro hg_ hat_); clear ho_ hg_ hat_)))
      go_roundw
      case rel =>
        refine ⟨k + 1, hlt, by go_num, Lib.hid ?_, hbb.grown HG19.out.1 hbb.size (fun j hj => HR2.out.base_le j hj)⟩
        have e : (xs.take (k + 1)).map hexL = (xs.take k).map hexL ++ [hexL (xs.getD k 0)] := by
          have hkx : k < xs.length := by have := HN.out; omega
          rw [List.take_succ_eq_append_getElem hkx, List.map_append, List.getD_eq_getElem?_getD, List.getElem?_eq_getElem hkx]; rfl
        rw [e]
        exact HO19.out
      case measure => simp [intOf]; omega
    · obtain rfl : k = n := by omega
      have htk : xs.take k = xs := List.take_of_length_le (by have := HN.out; omega)
      rw [htk] at HR
      obtain ⟨A2, c2, hv, hc2, hC2⟩ := HR.out.reads
      have hl2 : (xs.map hexL).length = k := by rw [List.length_map]; exact HN.out
      have hv' : u5 = .slice A2 (xs.map hexL).length c2 := hv
      have hC' : Kd.C kS wr A2 (xs.map hexL).length (xs.map hexL) := hC2
      rw [hl2] at hv' hC'
      subst hv'
      obtain ⟨b, off, _, e, hbb, _, _, _⟩ := C_at hC' (show 0 < kS.sz by decide) [] 0 (by omega)
      subst e
      have hcells : ∀ (j : Nat) x, (xs.map fun x => (⟨(hexL x).toArray⟩ : ByteArray))[j]? = some x → wr.cell? ⟨b, off + j, none⟩ = some (.string x) := fun j x hx => by
        have hj : j < xs.length := by have := (List.getElem?_eq_some_iff.1 hx).1; simpa using this
        obtain ⟨b', off', cs, e, _, _, hK, hc⟩ := C_at hC' (show 0 < kS.sz by decide) [] j (by have := HN.out; omega)
        injection e with e
        injection e with e1 e2
        subst e1 e2
        have hK' : cs = [.string ⟨((xs.map hexL).getD j []).toArray⟩] := hK
        subst hK'
        have h1 := hc 0 _ rfl
        rw [show off + j * kS.sz + 0 = off + j from by show off + j * 1 + 0 = _; omega] at h1
        rw [h1]
        rw [List.getElem?_map, List.getElem?_eq_getElem hj] at hx
        rw [List.getD_eq_getElem?_getD, List.getElem?_map, List.getElem?_eq_getElem hj]
        simp at hx ⊢
        exact hx
      have hj := Tryd.strings_Join b off c2 (xs.map fun x => (⟨(hexL x).toArray⟩ : ByteArray)) ⟨#[s]⟩ wr hcells hbb (by rw [List.length_map]; have := HN.out; omega) (by rw [List.length_map]; have := HN.out; have h3 := hc2; rw [hl2] at h3; omega) (by
        have e : (xs.map fun x => (⟨(hexL x).toArray⟩ : ByteArray)).map (·.data.toList) = xs.map hexL := by rw [List.map_map]; rfl
        rw [e]
        have := join_len xs s
        have := HN.out
        show (Go.Lib.join (xs.map hexL) [s]).length ≤ _
        omega)
      have e : (xs.map fun x => (⟨(hexL x).toArray⟩ : ByteArray)).map (·.data.toList) = xs.map hexL := by rw [List.map_map]; rfl
      rw [e, List.length_map, HN.out] at hj
      have HJ := Lib.hid hj
      clear hj e hcells hC' hC2 hv
      go_wp2_with (go_at_call 57; refine (HJ.out).mono ?_; rintro e w2 ⟨rfl, hb2⟩)
      go_ret
      exact ⟨rfl, bstep hb hb2⟩
end Go.Proofs.YtljcjgliddhgkaaDoor
namespace Go.Proofs.YtljcjgliddhgkaaDoor
open Go.RowKit Ieee
open Go.Proofs.YtljcjgliddhgkaaDoorW.PrintWords
set_option maxRecDepth 100000
attribute [local irreducible] wpRel hexL cn
def dS (s : Int) : UInt8 := if s = 1 then 49 else 48
def txT (h x y : Nat) (s : Int) : List UInt8 := hexL (cn h) ++ 44 :: hexL (cn x) ++ 44 :: hexL (cn y) ++ [44, dS s]
theorem ba_append (a b : Array UInt8) : (⟨a⟩ : ByteArray) ++ ⟨b⟩ = ⟨a ++ b⟩ := by
  apply ByteArray.ext
  rw [ByteArray.data_append]
theorem ba_size (l : Array UInt8) : (⟨l⟩ : ByteArray).size = l.size := rfl
theorem decimalS (s : Int) (hs : s = 0 ∨ s = 1) (w : World) : Calls Tryd.prog 55 #[.int .i64 s] w fun e w' => e = .returned (.string ⟨#[dS s]⟩) ∧ Below w.heap.size w w' := by
  rcases hs with rfl | rfl
  · exact decimalS_0 w
  · exact decimalS_1 w
theorem decimalSw (s : Int) (hs : s = 0 ∨ s = 1) (w : World) : Calls Tryd.prog 55 #[.int .i64 (IntKind.i64.wrap s)] w fun e w' => e = .returned (.string ⟨#[dS s]⟩) ∧ Below w.heap.size w w' := by
  have e : IntKind.i64.wrap s = s := by rcases hs with rfl | rfl <;> decide
  rw [e]
  exact decimalS s hs w
theorem decimalI (s : Int) (hs : s = 0 ∨ s = 1) (w : World) : Calls Tryd.prog 29 #[.int .i64 s] w fun e w' => e = .returned (.string ⟨#[dS s]⟩) ∧ Below w.heap.size w w' := by
  rcases hs with rfl | rfl
  · refine (decimal_any 0 (by decide) w).mono ?_
    rintro e w' ⟨rfl, rfl⟩
    exact ⟨by rw [decDigits_0]; rfl, Below.refl _ _⟩
  · refine (decimal_any 1 (by decide) w).mono ?_
    rintro e w' ⟨rfl, rfl⟩
    exact ⟨by rw [decDigits_1]; rfl, Below.refl _ _⟩
set_option maxHeartbeats 400000 in
theorem l06Text_any (h x y : Nat) (s : Int) (h1 : h < 4294967296) (h2 : x < 4294967296) (h3 : y < 4294967296) (hs : s = 0 ∨ s = 1) (w : World) :
    Calls Tryd.prog 26 #[.agg #[.float .f32 h, .float .f32 x, .float .f32 y, .int .i8 s]] w fun e w' => e = .returned (.string ⟨(txT h x y s).toArray⟩) ∧ Below w.heap.size w w' := by
  have HH := Lib.hid (And.intro h1 (And.intro h2 h3))
  clear h1 h2 h3
  go_enter Tryd.func26, Tryd.ntmps26
  go_wp2
  refine region_below (DAt [(5, .string ⟨(hexL (cn h)).toArray⟩), (10, .string ⟨(hexL (cn x)).toArray⟩), (16, .string ⟨(hexL (cn y)).toArray⟩), (22, .string ⟨#[dS s]⟩)]) (by kernel_rfl) (by kernel_rfl) ?_
  (refine wpRel_plain rfl (fun K hK => ?_); intro w' hb'; have hc' := bc (Bel.out hb'); go_simp; (first | refine hK _ ?_ | refine ⟨(by first | exact hb' | exact Bel.drewN hb' _ | exact Bel.alloc hb' _), hK _ ?_⟩); clear hK K hb' hc')
  (refine wpRel_plain rfl (fun K hK => ?_); intro w' hb'; have hc' := bc (Bel.out hb'); go_simp; (first | refine hK _ ?_ | refine ⟨(by first | exact hb' | exact Bel.drewN hb' _ | exact Bel.alloc hb' _), hK _ ?_⟩); clear hK K hb' hc')
  (refine wpRel_plain rfl (fun K hK => ?_); intro w' hb'; have hc' := bc (Bel.out hb'); go_simp; refine ⟨?_, fun v hv => ?_⟩; (go_at_call 54; refine (l01Hex_any h (cn h) ⟨rfl, HH.out.1⟩ _).mono ?_; rintro e w'' ⟨rfl, hk⟩; exact ⟨_, rfl, rfl, Bel.step hb' hk⟩); (first | (obtain rfl : v = _ := hv) | (obtain rfl : v = _ := (Option.some.inj hv).symm)); (refine hK _ ?_; clear hK K hb' hc'))
  (refine wpRel_plain rfl (fun K hK => ?_); intro w' hb'; have hc' := bc (Bel.out hb'); go_simp; rw [if_neg (by first | (simp [hexL_length, ba_append, ba_size]; done) | (simp [hexL_length, ba_append, ba_size]; omega))]; refine ⟨hb', hK _ ?_⟩; clear hK K hb' hc')
  (refine wpRel_plain rfl (fun K hK => ?_); intro w' hb'; have hc' := bc (Bel.out hb'); go_simp; (first | refine hK _ ?_ | refine ⟨(by first | exact hb' | exact Bel.drewN hb' _ | exact Bel.alloc hb' _), hK _ ?_⟩); clear hK K hb' hc')
  (refine wpRel_plain rfl (fun K hK => ?_); intro w' hb'; have hc' := bc (Bel.out hb'); go_simp; (first | refine hK _ ?_ | refine ⟨(by first | exact hb' | exact Bel.drewN hb' _ | exact Bel.alloc hb' _), hK _ ?_⟩); clear hK K hb' hc')
  (refine wpRel_plain rfl (fun K hK => ?_); intro w' hb'; have hc' := bc (Bel.out hb'); go_simp; (first | refine hK _ ?_ | refine ⟨(by first | exact hb' | exact Bel.drewN hb' _ | exact Bel.alloc hb' _), hK _ ?_⟩); clear hK K hb' hc')
  (refine wpRel_plain rfl (fun K hK => ?_); intro w' hb'; have hc' := bc (Bel.out hb'); go_simp; refine ⟨?_, fun v hv => ?_⟩; (go_at_call 54; refine (l01Hex_any x (cn x) ⟨rfl, HH.out.2.1⟩ _).mono ?_; rintro e w'' ⟨rfl, hk⟩; exact ⟨_, rfl, rfl, Bel.step hb' hk⟩); (first | (obtain rfl : v = _ := hv) | (obtain rfl : v = _ := (Option.some.inj hv).symm)); (refine hK _ ?_; clear hK K hb' hc'))
  (refine wpRel_plain rfl (fun K hK => ?_); intro w' hb'; have hc' := bc (Bel.out hb'); go_simp; rw [if_neg (by first | (simp [hexL_length, ba_append, ba_size]; done) | (simp [hexL_length, ba_append, ba_size]; omega))]; refine ⟨hb', hK _ ?_⟩; clear hK K hb' hc')
  (refine wpRel_plain rfl (fun K hK => ?_); intro w' hb'; have hc' := bc (Bel.out hb'); go_simp; rw [if_neg (by first | (simp [hexL_length, ba_append, ba_size]; done) | (simp [hexL_length, ba_append, ba_size]; omega))]; refine ⟨hb', hK _ ?_⟩; clear hK K hb' hc')
  (refine wpRel_plain rfl (fun K hK => ?_); intro w' hb'; have hc' := bc (Bel.out hb'); go_simp; (first | refine hK _ ?_ | refine ⟨(by first | exact hb' | exact Bel.drewN hb' _ | exact Bel.alloc hb' _), hK _ ?_⟩); clear hK K hb' hc')
  (refine wpRel_plain rfl (fun K hK => ?_); intro w' hb'; have hc' := bc (Bel.out hb'); go_simp; (first | refine hK _ ?_ | refine ⟨(by first | exact hb' | exact Bel.drewN hb' _ | exact Bel.alloc hb' _), hK _ ?_⟩); clear hK K hb' hc')
  (refine wpRel_plain rfl (fun K hK => ?_); intro w' hb'; have hc' := bc (Bel.out hb'); go_simp; (first | refine hK _ ?_ | refine ⟨(by first | exact hb' | exact Bel.drewN hb' _ | exact Bel.alloc hb' _), hK _ ?_⟩); clear hK K hb' hc')
  (refine wpRel_plain rfl (fun K hK => ?_); intro w' hb'; have hc' := bc (Bel.out hb'); go_simp; refine ⟨?_, fun v hv => ?_⟩; (go_at_call 54; refine (l01Hex_any y (cn y) ⟨rfl, HH.out.2.2⟩ _).mono ?_; rintro e w'' ⟨rfl, hk⟩; exact ⟨_, rfl, rfl, Bel.step hb' hk⟩); (first | (obtain rfl : v = _ := hv) | (obtain rfl : v = _ := (Option.some.inj hv).symm)); (refine hK _ ?_; clear hK K hb' hc'))
  (refine wpRel_plain rfl (fun K hK => ?_); intro w' hb'; have hc' := bc (Bel.out hb'); go_simp; rw [if_neg (by first | (simp [hexL_length, ba_append, ba_size]; done) | (simp [hexL_length, ba_append, ba_size]; omega))]; refine ⟨hb', hK _ ?_⟩; clear hK K hb' hc')
  (refine wpRel_plain rfl (fun K hK => ?_); intro w' hb'; have hc' := bc (Bel.out hb'); go_simp; rw [if_neg (by first | (simp [hexL_length, ba_append, ba_size]; done) | (simp [hexL_length, ba_append, ba_size]; omega))]; refine ⟨hb', hK _ ?_⟩; clear hK K hb' hc')
  (refine wpRel_plain rfl (fun K hK => ?_); intro w' hb'; have hc' := bc (Bel.out hb'); go_simp; (first | refine hK _ ?_ | refine ⟨(by first | exact hb' | exact Bel.drewN hb' _ | exact Bel.alloc hb' _), hK _ ?_⟩); clear hK K hb' hc')
  (refine wpRel_plain rfl (fun K hK => ?_); intro w' hb'; have hc' := bc (Bel.out hb'); go_simp; (first | refine hK _ ?_ | refine ⟨(by first | exact hb' | exact Bel.drewN hb' _ | exact Bel.alloc hb' _), hK _ ?_⟩); clear hK K hb' hc')
  (refine wpRel_plain rfl (fun K hK => ?_); intro w' hb'; have hc' := bc (Bel.out hb'); go_simp; (first | refine hK _ ?_ | refine ⟨(by first | exact hb' | exact Bel.drewN hb' _ | exact Bel.alloc hb' _), hK _ ?_⟩); clear hK K hb' hc')
  (refine wpRel_plain rfl (fun K hK => ?_); intro w' hb'; have hc' := bc (Bel.out hb'); go_simp; refine ⟨?_, fun v hv => ?_⟩; (go_at_call 55; refine (decimalSw s hs _).mono ?_; rintro e w'' ⟨rfl, hk⟩; exact ⟨_, rfl, rfl, Bel.step hb' hk⟩); (first | (obtain rfl : v = _ := hv) | (obtain rfl : v = _ := (Option.some.inj hv).symm)); (refine hK _ ?_; clear hK K hb' hc'))
  (refine wpRel_plain rfl (fun K hK => ?_); intro w' hb'; have hc' := bc (Bel.out hb'); go_simp; rw [if_neg (by first | (simp [hexL_length, ba_append, ba_size]; done) | (simp [hexL_length, ba_append, ba_size]; omega))]; refine ⟨hb', hK _ ?_⟩; clear hK K hb' hc')
  (refine wpRel_plain rfl (fun K hK => ?_); intro w' hb'; have hc' := bc (Bel.out hb'); go_simp; (first | refine hK _ ?_ | refine ⟨(by first | exact hb' | exact Bel.drewN hb' _ | exact Bel.alloc hb' _), hK _ ?_⟩); clear hK K hb' hc')
  (refine wpRel_nil ?_; intro w1 hb1; replace hb1 := Bel.out hb1; have hc1 := bc hb1; have hf1 := bf hb1; have hs1 := hb1.size; (try simp at hs1); (try have hz10 : w.heap.size < w1.heap.size := by omega); (try have hz11 : w.heap.size + 1 < w1.heap.size := by omega); (try have hz12 : w.heap.size + 1 + 1 < w1.heap.size := by omega); (try have hz13 : w.heap.size + 1 + 1 + 1 < w1.heap.size := by omega))
  go_wp2
  go_ret
  refine ⟨?_, ?_⟩
  · simp [ba_append, txT]
  · (repeat (first | with_reducible exact Below.refl _ _ | with_reducible refine bset ?_ (by first | (simp; done) | (simp; omega) | omega) _ | with_reducible refine balloc ?_ _ | with_reducible refine bdrewN ?_ _ | with_reducible refine bdrew ?_ | with_reducible refine bstep ?_ (by assumption)))
end Go.Proofs.YtljcjgliddhgkaaDoor
namespace Go.Proofs.YtljcjgliddhgkaaDoor
open Go.RowKit Ieee
open Go.Proofs.YtljcjgliddhgkaaDoorW.PrintWords
set_option maxRecDepth 100000
attribute [local irreducible] wpRel hexL cn
def txV (h x y : Nat) (s : Int) : List UInt8 := if okTooth h x y s then txT h x y s else []
set_option maxHeartbeats 1000000 in
theorem toothText_spec (h x y : Nat) (s : Int) (h1 : h < 4294967296) (h2 : x < 4294967296) (h3 : y < 4294967296) (hsl : -128 ≤ s) (hsu : s ≤ 127) (w : World) :
    Calls Tryd.prog 6 #[.agg #[.float .f32 h, .float .f32 x, .float .f32 y, .int .i8 s]] w fun e w' => e = .returned (.string ⟨(txV h x y s).toArray⟩) ∧ Below w.heap.size w w' := by
  have HH := Lib.hid (And.intro h1 (And.intro h2 h3))
  clear h1 h2 h3
  cases hk : okTooth h x y s
  · go_enter Tryd.func6, Tryd.ntmps6
    go_wp2_with (go_at_call 25; refine (okTooth_spec _ _ _ _ hsl hsu _).mono ?_; rintro e w1 ⟨rfl, hb1⟩; have hc1 := bc hb1; have hf1 := bf hb1; have hs1 := hb1.size; (try simp at hs1); (try have hz10 : w.heap.size < w1.heap.size := by omega); (try have hz11 : w.heap.size + 1 < w1.heap.size := by omega); (try have hz12 : w.heap.size + 1 + 1 < w1.heap.size := by omega); (try have hz13 : w.heap.size + 1 + 1 + 1 < w1.heap.size := by omega))
    all_goals (go_ret; refine ⟨by simp [txV, hk], ?_⟩)
    all_goals (repeat (first | with_reducible exact Below.refl _ _ | with_reducible refine bset ?_ (by first | (simp; done) | (simp; omega) | omega) _ | with_reducible refine balloc ?_ _ | with_reducible refine bdrewN ?_ _ | with_reducible refine bdrew ?_ | with_reducible refine bstep ?_ (by assumption)))
  · have hs := ok_side hk
    go_enter Tryd.func6, Tryd.ntmps6
    go_wp2_with (first | (go_at_call 25; refine (okTooth_spec _ _ _ _ hsl hsu _).mono ?_; rintro e w1 ⟨rfl, hb1⟩; have hc1 := bc hb1; have hf1 := bf hb1; have hs1 := hb1.size; (try simp at hs1); (try have hz10 : w.heap.size < w1.heap.size := by omega); (try have hz11 : w.heap.size + 1 < w1.heap.size := by omega); (try have hz12 : w.heap.size + 1 + 1 < w1.heap.size := by omega); (try have hz13 : w.heap.size + 1 + 1 + 1 < w1.heap.size := by omega)) | (go_at_call 26; refine (l06Text_any _ _ _ _ HH.out.1 HH.out.2.1 HH.out.2.2 hs _).mono ?_; rintro e w2 ⟨rfl, hb2⟩; have hc2 := bc hb2; have hf2 := bf hb2; have hs2 := hb2.size; (try simp at hs2); (try have hz20 : w.heap.size < w2.heap.size := by omega); (try have hz21 : w.heap.size + 1 < w2.heap.size := by omega); (try have hz22 : w.heap.size + 1 + 1 < w2.heap.size := by omega); (try have hz23 : w.heap.size + 1 + 1 + 1 < w2.heap.size := by omega)))
    all_goals (go_ret; refine ⟨by simp [txV, hk], ?_⟩)
    all_goals (repeat (first | with_reducible exact Below.refl _ _ | with_reducible refine bset ?_ (by first | (simp; done) | (simp; omega) | omega) _ | with_reducible refine balloc ?_ _ | with_reducible refine bdrewN ?_ _ | with_reducible refine bdrew ?_ | with_reducible refine bstep ?_ (by assumption)))
end Go.Proofs.YtljcjgliddhgkaaDoor
namespace Go.Proofs.YtljcjgliddhgkaaDoor
open Go.RowKit Ieee
open Go.Proofs.YtljcjgliddhgkaaDoorW.PrintWords
set_option maxRecDepth 100000
attribute [local irreducible] wpRel hexL cn
theorem decimalIw (s : Int) (hs : s = 0 ∨ s = 1) (w : World) : Calls Tryd.prog 29 #[.int .i64 (IntKind.i64.wrap s)] w fun e w' => e = .returned (.string ⟨#[dS s]⟩) ∧ Below w.heap.size w w' := by
  have e : IntKind.i64.wrap s = s := by rcases hs with rfl | rfl <;> decide
  rw [e]
  exact decimalI s hs w
theorem kf3 (w : World) (h x y t : Nat) (h1 : h < 4294967296) (h2 : x < 4294967296) (h3 : y < 4294967296) : Kd.C kf (w.alloc (.cells #[.float .f32 h, .float .f32 x, .float .f32 y] t)) (some ⟨w.heap.size, 0, none⟩) 3 [cn h, cn x, cn y] := by
  refine ⟨rfl, by decide, fun _ => ⟨_, rfl, fun j p hj => ?_⟩⟩
  have hj3 : j < 3 := by have := (List.getElem?_eq_some_iff.1 hj).1; simpa using this
  have key : ∀ (r : Nat) (k : Nat), r < 4294967296 → #[Value.float .f32 h, .float .f32 x, .float .f32 y][k]? = some (.float .f32 r) → ∃ c : List Value, c.length = kf.sz ∧ kf.K (w.alloc (.cells #[.float .f32 h, .float .f32 x, .float .f32 y] t)) (cn r) c ∧ ∀ i u, c[i]? = some u → (w.alloc (.cells #[.float .f32 h, .float .f32 x, .float .f32 y] t)).cell? ((⟨w.heap.size, 0, none⟩ : Addr).add (k * kf.sz + i)) = some u := by
    intro r k hr hk
    refine ⟨[.float .f32 r], rfl, ⟨r, rfl, rfl, hr⟩, fun i u hu => ?_⟩
    obtain ⟨rfl, rfl⟩ : i = 0 ∧ u = .float .f32 r := by
      cases i with
      | zero => exact ⟨rfl, by simpa using hu.symm⟩
      | succ i => simp at hu
    rw [show (⟨w.heap.size, 0, none⟩ : Addr).add (k * kf.sz + 0) = ⟨w.heap.size, k, none⟩ from by show Addr.add _ (k * 1 + 0) = _; first | (simp [Addr.add]; done) | (simp [Addr.add]; exact Eq.symm) | (simp [Addr.add]; omega)]
    rw [World.cell?_alloc_at _ _ _ _ rfl]
    exact hk
  have hc : j = 0 ∨ j = 1 ∨ j = 2 := by omega
  rcases hc with rfl | rfl | rfl
  · obtain rfl : cn h = p := by simpa using hj
    exact key h 0 h1 rfl
  · obtain rfl : cn x = p := by simpa using hj
    exact key x 1 h2 rfl
  · obtain rfl : cn y = p := by simpa using hj
    exact key y 2 h3 rfl
def jn (h x y : Nat) : List UInt8 := Go.Lib.join ([cn h, cn x, cn y].map hexL) [44]
theorem jn_eq (h x y : Nat) : jn h x y = hexL (cn h) ++ 44 :: hexL (cn x) ++ 44 :: hexL (cn y) := by simp [jn, Go.Lib.join, List.intercalate, List.intersperse]
theorem jn_len (h x y : Nat) : (jn h x y).length = 26 := by rw [jn_eq]; simp [hexL_length]
theorem texts3 (A : Option Addr) (h x y : Nat) (w : World) (hA : Kd.C kf w A 3 [cn h, cn x, cn y]) : Calls Tryd.prog 28 #[.string ⟨#[44]⟩, .slice A 3 3] w fun e w' => e = .returned (.string ⟨(jn h x y).toArray⟩) ∧ Below w.heap.size w w' :=
  texts_any A 3 3 [cn h, cn x, cn y] 44 w rfl hA (by decide) (by decide)
attribute [local irreducible] jn
set_option maxHeartbeats 1000000 in
theorem toothText_impl (h x y : Nat) (s : Int) (h1 : h < 4294967296) (h2 : x < 4294967296) (h3 : y < 4294967296) (hsl : -128 ≤ s) (hsu : s ≤ 127) (w : World) :
    Calls Tryd.prog 8 #[.agg #[.float .f32 h, .float .f32 x, .float .f32 y, .int .i8 s]] w fun e w' => e = .returned (.string ⟨(txV h x y s).toArray⟩) ∧ Below w.heap.size w w' := by
  have HH := Lib.hid (And.intro h1 (And.intro h2 h3))
  clear h1 h2 h3
  cases hk : okTooth h x y s
  · go_enter Tryd.func8, Tryd.ntmps8
    go_wp2_with (go_at_call 22; refine (validTooth_impl _ _ _ _ hsl hsu _).mono ?_; rintro e w1 ⟨rfl, hb1⟩; have hc1 := bc hb1; have hf1 := bf hb1; have hs1 := hb1.size; (try simp at hs1); (try have hz10 : w.heap.size < w1.heap.size := by omega); (try have hz11 : w.heap.size + 1 < w1.heap.size := by omega); (try have hz12 : w.heap.size + 1 + 1 < w1.heap.size := by omega); (try have hz13 : w.heap.size + 1 + 1 + 1 < w1.heap.size := by omega))
    all_goals (go_ret; refine ⟨by simp [txV, hk], ?_⟩)
    all_goals (repeat (first | with_reducible exact Below.refl _ _ | with_reducible refine bset ?_ (by first | (simp; done) | (simp; omega) | omega) _ | with_reducible refine balloc ?_ _ | with_reducible refine bdrewN ?_ _ | with_reducible refine bdrew ?_ | with_reducible refine bstep ?_ (by assumption)))
  · have hs := ok_side hk
    go_enter Tryd.func8, Tryd.ntmps8
    go_wp2_with (first | (go_at_call 22; refine (validTooth_impl _ _ _ _ hsl hsu _).mono ?_; rintro e w1 ⟨rfl, hb1⟩; have hc1 := bc hb1; have hf1 := bf hb1; have hs1 := hb1.size; (try simp at hs1); (try have hz10 : w.heap.size < w1.heap.size := by omega); (try have hz11 : w.heap.size + 1 < w1.heap.size := by omega); (try have hz12 : w.heap.size + 1 + 1 < w1.heap.size := by omega); (try have hz13 : w.heap.size + 1 + 1 + 1 < w1.heap.size := by omega)))
    have L1 : (jn h x y).length = 26 := jn_len h x y
    have L2 : ((⟨(jn h x y).toArray⟩ : ByteArray) ++ ⟨#[44]⟩).size = 27 := by rw [ba_append, ba_size]; simp [L1]
    have L3 : (⟨#[dS s]⟩ : ByteArray).size = 1 := rfl
    have HB := Lib.hid hb1
    go_region_held3 (fun w' => w'.cell? ⟨w.heap.size, 0, none⟩ = some (.float .f32 h) ∧ w'.cell? ⟨w.heap.size, 1, none⟩ = some (.float .f32 x) ∧ w'.cell? ⟨w.heap.size, 2, none⟩ = some (.float .f32 y) ∧ w'.cell? ⟨w.heap.size, 3, none⟩ = some (.int .i8 s))
      (go_keep)
      (first | (go_at_call 28; refine (texts3 _ h x y _ (Kd.C_below (kf3 _ h x y 22 HH.out.1 HH.out.2.1 HH.out.2.2) (by (repeat (first | with_reducible exact Below.refl _ _ | with_reducible refine bset ?_ (by first | (simp; done) | (simp; omega) | omega) _ | with_reducible refine balloc ?_ _ | with_reducible refine bdrewN ?_ _ | with_reducible refine bdrew ?_ | with_reducible refine bstep ?_ (by assumption)))))).mono ?_; rintro e w2 ⟨rfl, hb2⟩; have hc2 := bc hb2; have hf2 := bf hb2; have hs2 := hb2.size; (try simp at hs2); (try have hz20 : w.heap.size < w2.heap.size := by omega); (try have hz21 : w.heap.size + 1 < w2.heap.size := by omega); (try have hz22 : w.heap.size + 1 + 1 < w2.heap.size := by omega); (try have hz23 : w.heap.size + 1 + 1 + 1 < w2.heap.size := by omega); (have k20 := hc2 w.heap.size 0 (by first | omega | (simp; omega))); (have k21 := hc2 w.heap.size 1 (by first | omega | (simp; omega))); (have k22 := hc2 w.heap.size 2 (by first | omega | (simp; omega))); (have k23 := hc2 w.heap.size 3 (by first | omega | (simp; omega)))) | (go_at_call 29; refine (decimalIw s hs _).mono ?_; rintro e w3 ⟨rfl, hb3⟩; have hc3 := bc hb3; have hf3 := bf hb3; have hs3 := hb3.size; (try simp at hs3); (try have hz30 : w.heap.size < w3.heap.size := by omega); (try have hz31 : w.heap.size + 1 < w3.heap.size := by omega); (try have hz32 : w.heap.size + 1 + 1 < w3.heap.size := by omega); (try have hz33 : w.heap.size + 1 + 1 + 1 < w3.heap.size := by omega); (try have hy320 : w2.heap.size < w3.heap.size := by omega); (try have hy321 : w2.heap.size + 1 < w3.heap.size := by omega); (have k30 := hc3 w.heap.size 0 (by first | omega | (simp; omega))); (have k31 := hc3 w.heap.size 1 (by first | omega | (simp; omega))); (have k32 := hc3 w.heap.size 2 (by first | omega | (simp; omega))); (have k33 := hc3 w.heap.size 3 (by first | omega | (simp; omega)))))
    all_goals go_wp2
    all_goals (go_ret; refine ⟨by simp [txV, hk, ba_append, jn_eq, txT], ?_⟩)
    all_goals (repeat (first | with_reducible exact Below.refl _ _ | with_reducible refine bset ?_ (by first | (simp; done) | (simp; omega) | omega) _ | with_reducible refine balloc ?_ _ | with_reducible refine bdrewN ?_ _ | with_reducible refine bdrew ?_ | with_reducible refine bstep ?_ (by assumption)))
end Go.Proofs.YtljcjgliddhgkaaDoor
