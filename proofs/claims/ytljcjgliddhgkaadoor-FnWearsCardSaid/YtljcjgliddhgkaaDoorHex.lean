/- Numbers as texts of eight digits: plain. Numbers as texts: the contracts. -/
import Derived.Test.YtljcjgliddhgkaaDoorIe
import Derived.Test.YtljcjgliddhgkaaDoorSame
import Derived.Test.YtljcjgliddhgkaaDoorRow
import Derived.Test.YtljcjgliddhgkaaDoorDrw
import Derived.Laws.IdiomStrings
namespace Go.Proofs.YtljcjgliddhgkaaDoor
open Ieee
set_option maxRecDepth 100000

/-- A digit's byte. -/
def hexD (d : Nat) : UInt8 := if d < 10 then UInt8.ofNat (48 + d) else UInt8.ofNat (87 + d)
/-- The text of a word: eight digits. -/
def hexL (n : Nat) : List UInt8 := [hexD (n / 268435456 % 16), hexD (n / 16777216 % 16), hexD (n / 1048576 % 16), hexD (n / 65536 % 16), hexD (n / 4096 % 16), hexD (n / 256 % 16), hexD (n / 16 % 16), hexD (n % 16)]
/-- What a byte is worth: 0 where it is no digit. -/
def hexV (b : UInt8) : Nat := if 48 ≤ b.toNat ∧ b.toNat ≤ 57 then b.toNat - 48 else if 97 ≤ b.toNat ∧ b.toNat ≤ 102 then b.toNat - 87 else 0
def isHex (b : UInt8) : Bool := (decide (48 ≤ b.toNat) && decide (b.toNat ≤ 57)) || (decide (97 ≤ b.toNat) && decide (b.toNat ≤ 102))
/-- Bytes read on from a number. -/
def rdN : List UInt8 → Nat → Nat
  | [], n => n
  | b :: l, n => rdN l ((n * 16 + hexV b) % 4294967296)
theorem hexD_val : ∀ d : Nat, d < 16 → hexV (hexD d) = d ∧ isHex (hexD d) = true := by decide
theorem hexV_lt (b : UInt8) : hexV b < 16 := by unfold hexV; split <;> (try split) <;> omega
theorem hexL_hex (n : Nat) : (hexL n).all isHex = true := by
  have h : ∀ k, isHex (hexD (k % 16)) = true := fun k => (hexD_val _ (Nat.mod_lt _ (by decide))).2
  unfold hexL
  simp only [List.all_cons, List.all_nil, h]
  rfl
theorem rdN_hexL {m : Nat} (h : m < 4294967296) : rdN (hexL m) 0 = m := by
  have hv : ∀ k, hexV (hexD (k % 16)) = k % 16 := fun k => (hexD_val _ (Nat.mod_lt _ (by decide))).1
  unfold hexL
  simp only [rdN, hv]
  omega
theorem hexD_of {b : UInt8} (h : isHex b = true) : hexD (hexV b) = b := by
  have : ∀ k : Nat, k < 256 → isHex (UInt8.ofNat k) = true → hexD (hexV (UInt8.ofNat k)) = UInt8.ofNat k := by decide +kernel
  have h2 := this b.toNat b.toNat_lt (by simpa using h)
  simpa using h2
/-- Eight digits are the text of their number. -/
theorem hexL_rdN {l : List UInt8} (hl : l.length = 8) (h : l.all isHex = true) : hexL (rdN l 0) = l ∧ rdN l 0 < 4294967296 := by
  match l, hl with
  | [a, b, c, d, e, f, g, i], _ =>
    simp only [List.all_cons, List.all_nil, Bool.and_eq_true] at h
    obtain ⟨h1, h2, h3, h4, h5, h6, h7, h8, _⟩ := h
    have ka := hexV_lt a; have kb := hexV_lt b; have kc := hexV_lt c; have kd := hexV_lt d
    have ke := hexV_lt e; have kf := hexV_lt f; have kg := hexV_lt g; have ki := hexV_lt i
    have ea := hexD_of h1; have eb := hexD_of h2; have ec := hexD_of h3; have ed := hexD_of h4
    have ee := hexD_of h5; have ef := hexD_of h6; have eg := hexD_of h7; have ei := hexD_of h8
    have hN : rdN [a, b, c, d, e, f, g, i] 0 = hexV a * 268435456 + hexV b * 16777216 + hexV c * 1048576 + hexV d * 65536 + hexV e * 4096 + hexV f * 256 + hexV g * 16 + hexV i := by
      simp only [rdN]
      omega
    rw [hN]
    constructor
    · unfold hexL
      rw [show (hexV a * 268435456 + hexV b * 16777216 + hexV c * 1048576 + hexV d * 65536 + hexV e * 4096 + hexV f * 256 + hexV g * 16 + hexV i) / 268435456 % 16 = hexV a by omega,
        show (hexV a * 268435456 + hexV b * 16777216 + hexV c * 1048576 + hexV d * 65536 + hexV e * 4096 + hexV f * 256 + hexV g * 16 + hexV i) / 16777216 % 16 = hexV b by omega,
        show (hexV a * 268435456 + hexV b * 16777216 + hexV c * 1048576 + hexV d * 65536 + hexV e * 4096 + hexV f * 256 + hexV g * 16 + hexV i) / 1048576 % 16 = hexV c by omega,
        show (hexV a * 268435456 + hexV b * 16777216 + hexV c * 1048576 + hexV d * 65536 + hexV e * 4096 + hexV f * 256 + hexV g * 16 + hexV i) / 65536 % 16 = hexV d by omega,
        show (hexV a * 268435456 + hexV b * 16777216 + hexV c * 1048576 + hexV d * 65536 + hexV e * 4096 + hexV f * 256 + hexV g * 16 + hexV i) / 4096 % 16 = hexV e by omega,
        show (hexV a * 268435456 + hexV b * 16777216 + hexV c * 1048576 + hexV d * 65536 + hexV e * 4096 + hexV f * 256 + hexV g * 16 + hexV i) / 256 % 16 = hexV f by omega,
        show (hexV a * 268435456 + hexV b * 16777216 + hexV c * 1048576 + hexV d * 65536 + hexV e * 4096 + hexV f * 256 + hexV g * 16 + hexV i) / 16 % 16 = hexV g by omega,
        show (hexV a * 268435456 + hexV b * 16777216 + hexV c * 1048576 + hexV d * 65536 + hexV e * 4096 + hexV f * 256 + hexV g * 16 + hexV i) % 16 = hexV i by omega,
        ea, eb, ec, ed, ee, ef, eg, ei]
    · omega
theorem cn_lt {n : Nat} (h : n < 4294967296) : cn n < 4294967296 := by
  unfold cn
  split
  · decide
  · exact h
theorem rdN_lt : ∀ (l : List UInt8) (n : Nat), n < 4294967296 → rdN l n < 4294967296
  | [], _, h => h
  | _ :: l, _, _ => rdN_lt l _ (Nat.mod_lt _ (by decide))
/-- When a text is a number's: both ways of asking. -/
theorem read_iff (l : List UInt8) : hexL (cn (rdN (l.take 8) 0)) = l ↔ (l.length = 8 ∧ l.all isHex = true ∧ cn (rdN l 0) = rdN l 0) := by
  constructor
  · intro h
    have hm := cn_lt (rdN_lt (l.take 8) 0 (by decide))
    have hc := cn_cn (rdN (l.take 8) 0)
    generalize cn (rdN (l.take 8) 0) = m at h hm hc
    subst h
    exact ⟨rfl, hexL_hex m, by rw [rdN_hexL hm]; exact hc⟩
  · rintro ⟨h1, h2, h3⟩
    rw [List.take_of_length_le (by omega), h3]
    exact (hexL_rdN h1 h2).1
theorem read_val {l : List UInt8} (h : l.length = 8) : rdN (l.take 8) 0 = rdN l 0 := by rw [List.take_of_length_le (by omega)]
theorem hexL_length (n : Nat) : (hexL n).length = 8 := rfl
end Go.Proofs.YtljcjgliddhgkaaDoor
namespace Go.Proofs.YtljcjgliddhgkaaDoor
open Go.RowKit Ieee
open Go.Proofs.YtljcjgliddhgkaaDoorW.PrintWords
set_option maxRecDepth 100000
attribute [local irreducible] wpRel
theorem l01Bits_any (r x : Nat) (h : FV r x) (w : World) : Calls Tryd.prog 60 #[.float .f32 r] w fun e w' => e = .returned (.int .u32 x) ∧ w = w' := by
  have hbits := bits_run
  have hf := feq_self r
  cases hn : isn r
  · obtain rfl : r = x := by rw [← h.1, cn_of_not hn]
    rw [hn] at hf
    clear h
    go_enter Tryd.func60, Tryd.ntmps60
    go_wp2
    go_ret
    exact ⟨rfl, rfl⟩
  · obtain rfl : nanW = x := by rw [← h.1, cn_of_isn hn]
    rw [hn] at hf
    clear h
    go_enter Tryd.func60, Tryd.ntmps60
    go_wp2
    go_ret
    exact ⟨rfl, rfl⟩
/-- The bytes of a number's text, as whole numbers. -/
def hexI (x : Nat) : List Int := (hexL x).map fun b => (b.toNat : Int)
theorem hexI_length (x : Nat) : (hexI x).length = 8 := rfl
section
variable {ops : Array Oper} {rest : List Oper} {o : Oper} {a : Act} {Q : Exit → Act → World → Prop}
theorem info_byte : (Tryd.prog.info? 5).map (fun i => (i.zero, i.size, i.bytes)) = some (some (.int .u8 0), 1, 1) := by kernel_rfl
/-- append(v, x) of one byte, whichever base. -/
theorem apBb (base : Nat) {W : World} {z : Int} (hgd : o.guard = none) (s x : Operand) (ho : o.op = .call { callee := .builtin .append, args := #[s, x], argTypes := #[35, 35] })
    (v : Value) (xs : List Int) (hs : a.eval s = v) (hx : a.eval x = .slice (some ⟨W.heap.size, 0, none⟩) 1 1)
    (HO : RW kB 5 W base v xs) (hb : base ≤ W.heap.size) (hl : xs.length ≤ 1048576)
    (h : ∀ v1 w1, RW kB 5 w1 base v1 (xs ++ [z]) → W.grownBy w1 v.ownBlock → (v1.ownBlock = v.ownBlock ∨ ∃ b, v1.ownBlock = some b ∧ W.heap.size ≤ b) → wpList Tryd.prog ops Q rest (a.put o.dst v1) w1) :
    wpList Tryd.prog ops Q (o :: rest) a (W.alloc (.cells #[.int .u8 z] 5)) :=
  Kd.R_append kB (w0 := W) base hgd s x 35 5 (.int .u8 0) 1 ho Tryd.underlying35 info_byte rfl (by decide) (by decide) v xs z [.int .u8 z] (fun _ => True) (fun _ => False) hs hx rfl (fun _ h => h.elim) (fun _ _ => trivial) HO (Below.refl _ _) hb (by omega) fun v1 w1 h1 _ h2 h3 => h v1 w1 h1 h2 h3
end
def digLit : ByteArray := ⟨#[48, 49, 50, 51, 52, 53, 54, 55, 56, 57, 97, 98, 99, 100, 101, 102]⟩
theorem dig_at : ∀ (k : Nat) (h : k < digLit.size), (digLit[k]'h).toNat = (hexD k).toNat := by
  intro k h
  have h' : k < 16 := h
  have hc : k = 0 ∨ k = 1 ∨ k = 2 ∨ k = 3 ∨ k = 4 ∨ k = 5 ∨ k = 6 ∨ k = 7 ∨ k = 8 ∨ k = 9 ∨ k = 10 ∨ k = 11 ∨ k = 12 ∨ k = 13 ∨ k = 14 ∨ k = 15 := by omega
  rcases hc with rfl | rfl | rfl | rfl | rfl | rfl | rfl | rfl | rfl | rfl | rfl | rfl | rfl | rfl | rfl | rfl <;> rfl
theorem and15 {y : Nat} (h : y < 4294967296) : (bits .and .u32 (y : Int) 15).toNat = y % 16 := by
  have e : bits .and .u32 (y : Int) 15 = (y : Int) % 16 := bits_mask .u32 32 (by decide) wraps_u32 4 (by decide) _ (by omega) (by omega)
  rw [e]
  omega
theorem take_hexI_0 (r : Nat) : (hexI r).take 1 = (hexI r).take 0 ++ [((hexD (r / 268435456 % 16)).toNat : Int)] := rfl
theorem take_hexI_1 (r : Nat) : (hexI r).take 2 = (hexI r).take 1 ++ [((hexD (r / 16777216 % 16)).toNat : Int)] := rfl
theorem take_hexI_2 (r : Nat) : (hexI r).take 3 = (hexI r).take 2 ++ [((hexD (r / 1048576 % 16)).toNat : Int)] := rfl
theorem take_hexI_3 (r : Nat) : (hexI r).take 4 = (hexI r).take 3 ++ [((hexD (r / 65536 % 16)).toNat : Int)] := rfl
theorem take_hexI_4 (r : Nat) : (hexI r).take 5 = (hexI r).take 4 ++ [((hexD (r / 4096 % 16)).toNat : Int)] := rfl
theorem take_hexI_5 (r : Nat) : (hexI r).take 6 = (hexI r).take 5 ++ [((hexD (r / 256 % 16)).toNat : Int)] := rfl
theorem take_hexI_6 (r : Nat) : (hexI r).take 7 = (hexI r).take 6 ++ [((hexD (r / 16 % 16)).toNat : Int)] := rfl
theorem take_hexI_7 (r : Nat) : (hexI r).take 8 = (hexI r).take 7 ++ [((hexD (r % 16)).toNat : Int)] := rfl
theorem and15I (y : Int) {n : Nat} (h0 : 0 ≤ y) (h1 : y < 4294967296) (hn : (y % 16) = (n : Int)) : bits .and .u32 y 15 = (n : Int) := by
  have e : bits .and .u32 y 15 = y % 16 := bits_mask .u32 32 (by decide) wraps_u32 4 (by decide) _ (by omega) (by omega)
  rw [e, hn]
/-- A text out of the row of its bytes. -/
theorem str_of_row {w : World} {base : Nat} {v : Value} {x : Nat} (h : RW kB 5 w base v (hexI x)) :
    ∃ b off c, v = .slice (some ⟨b, off, none⟩) 8 c ∧ (convert 35 9 (.slice (some ⟨b, off, none⟩) 8 c)).run Tryd.prog w = .ok (.string ⟨(hexL x).toArray⟩) w := by
  obtain ⟨A, c, hv, _, hC⟩ := h.reads
  have hC' : Kd.C kB w A 8 (hexI x) := hC
  have hv' : v = .slice A 8 c := hv
  obtain ⟨b, off, _, e, _, _, _, _⟩ := C_at hC' (show 0 < kB.sz by decide) 0 0 (by decide)
  subst e
  refine ⟨b, off, c, hv', run_convert_bytes_back (P := Tryd.prog) w 35 9 5 ⟨b, off, none⟩ c (hexL x) Tryd.underlying35 Tryd.underlying5 Tryd.underlying9 (fun j hj => ?_)⟩
  have hj8 : j < 8 := hj
  obtain ⟨b', off', cs, e, _, _, hK, hc⟩ := C_at hC' (show 0 < kB.sz by decide) 0 j hj8
  injection e with e
  injection e with e1 e2
  subst e1 e2
  have hK' : cs = [.int .u8 ((hexI x).getD j 0)] := hK
  subst hK'
  have := hc 0 _ rfl
  rw [show (⟨b, off, none⟩ : Addr).add j = ⟨b, off + j * kB.sz + 0, none⟩ from by rw [show kB.sz = 1 from rfl]; unfold Addr.add; by_cases hj0 : j = 0 <;> simp [hj0]]
  rw [this]
  congr 2
  unfold hexI
  rw [List.getD_eq_getElem?_getD, List.getElem?_map, List.getElem?_eq_getElem hj]
  rfl
set_option maxHeartbeats 8000000 in
theorem numberText_impl (r x : Nat) (h : FV r x) (w : World) : Calls Tryd.prog 56 #[.float .f32 r] w fun e w' => e = .returned (.string ⟨(hexL x).toArray⟩) ∧ Below w.heap.size w w' := by
  have hbits := bits_run
  have hf := feq_self r
  cases hn : isn r
  · obtain rfl : r = x := by rw [← h.1, cn_of_not hn]
    rw [hn] at hf
    have hlt := h.2
    clear h
    have HR0 := Lib.hid (RW.empty (w := w.alloc (.cells #[] 5)) kB 5 w.heap.size w.heap.size (heap_alloc_new w _) (Nat.le_refl _))
    go_enter Tryd.func56, Tryd.ntmps56
    go_wp2
    go_loopw [4, 5] (fun v i wr => ∃ m : Nat, m ≤ 8 ∧ i = .int .i64 (28 - 4 * (m : Int)) ∧ Hid (RW kB 5 wr w.heap.size v ((hexI r).take m)) ∧ Below w.heap.size w wr) (fun _ i _ => ((intOf i) + 4).toNat)
    case atStart => exact ⟨0, Nat.zero_le _, rfl, HR0, balloc (Below.refl _ _) _⟩
    case round =>
      clear HR0
      obtain ⟨m, hm, rfl, HR, hb⟩ := hrel
      by_cases hlt2 : m < 8
      · have HL := Lib.hid (show ((hexI r).take m).length ≤ 1048576 from by rw [List.length_take, hexI_length]; omega)
        have hcase : m = 0 ∨ m = 1 ∨ m = 2 ∨ m = 3 ∨ m = 4 ∨ m = 5 ∨ m = 6 ∨ m = 7 := by omega
        rcases hcase with rfl | rfl | rfl | rfl | rfl | rfl | rfl | rfl
        · obtain ⟨d, hd⟩ : ∃ d, r / 268435456 % 16 = d := ⟨_, rfl⟩
          have hd16 : d < 16 := by omega
          have eb : bits .and .u32 ((r : Int) / 268435456) 15 = (d : Int) := by rw [← hd]; exact and15I ((r : Int) / 268435456) (by omega) (by omega) (by omega)
          have y1 : (d : Int) < 16 := by omega
          have y2 : (0 : Int) ≤ (d : Int) := by omega
          have HD := Lib.hid hd
          clear hd
          simp only [show (28 : Int) - 4 * ((0 : Nat) : Int) = 28 by decide]
          go_wp2_with (at_builtin; go_must ((refine apBb w.heap.size (o := ⟨some 23, _, _, _, _, _⟩) rfl (.tmp 16) (.tmp 22) rfl u4 ((hexI r).take 0) ?y23 ?x23 ?o23 ?b23 HL.out  ?_; (case y23 => rfl); (case x23 => go_simp); (case o23 => exact HR.out); (case b23 => have := hb.size ; simp ; omega); intro v23 w23 ho_ hg_ hat_; have HO23 := Lib.hid ho_; have HG23 := Lib.hid (And.intro hg_ hat_); clear ho_ hg_ hat_)))
          go_roundw
          case rel => exact ⟨1, by omega, rfl, Lib.hid (by rw [take_hexI_0, HD.out, ← dig_at d (show d < digLit.size from hd16)]; exact HO23.out), hb.grown HG23.out.1 (by first | exact hb.size | (simp; have := hb.size; omega)) (fun k hk => HR.out.base_le k hk)⟩
          case measure => decide
        · obtain ⟨d, hd⟩ : ∃ d, r / 16777216 % 16 = d := ⟨_, rfl⟩
          have hd16 : d < 16 := by omega
          have eb : bits .and .u32 ((r : Int) / 16777216) 15 = (d : Int) := by rw [← hd]; exact and15I ((r : Int) / 16777216) (by omega) (by omega) (by omega)
          have y1 : (d : Int) < 16 := by omega
          have y2 : (0 : Int) ≤ (d : Int) := by omega
          have HD := Lib.hid hd
          clear hd
          simp only [show (28 : Int) - 4 * ((1 : Nat) : Int) = 24 by decide]
          go_wp2_with (at_builtin; go_must ((refine apBb w.heap.size (o := ⟨some 23, _, _, _, _, _⟩) rfl (.tmp 16) (.tmp 22) rfl u4 ((hexI r).take 1) ?y23 ?x23 ?o23 ?b23 HL.out  ?_; (case y23 => rfl); (case x23 => go_simp); (case o23 => exact HR.out); (case b23 => have := hb.size ; simp ; omega); intro v23 w23 ho_ hg_ hat_; have HO23 := Lib.hid ho_; have HG23 := Lib.hid (And.intro hg_ hat_); clear ho_ hg_ hat_)))
          go_roundw
          case rel => exact ⟨2, by omega, rfl, Lib.hid (by rw [take_hexI_1, HD.out, ← dig_at d (show d < digLit.size from hd16)]; exact HO23.out), hb.grown HG23.out.1 (by first | exact hb.size | (simp; have := hb.size; omega)) (fun k hk => HR.out.base_le k hk)⟩
          case measure => decide
        · obtain ⟨d, hd⟩ : ∃ d, r / 1048576 % 16 = d := ⟨_, rfl⟩
          have hd16 : d < 16 := by omega
          have eb : bits .and .u32 ((r : Int) / 1048576) 15 = (d : Int) := by rw [← hd]; exact and15I ((r : Int) / 1048576) (by omega) (by omega) (by omega)
          have y1 : (d : Int) < 16 := by omega
          have y2 : (0 : Int) ≤ (d : Int) := by omega
          have HD := Lib.hid hd
          clear hd
          simp only [show (28 : Int) - 4 * ((2 : Nat) : Int) = 20 by decide]
          go_wp2_with (at_builtin; go_must ((refine apBb w.heap.size (o := ⟨some 23, _, _, _, _, _⟩) rfl (.tmp 16) (.tmp 22) rfl u4 ((hexI r).take 2) ?y23 ?x23 ?o23 ?b23 HL.out  ?_; (case y23 => rfl); (case x23 => go_simp); (case o23 => exact HR.out); (case b23 => have := hb.size ; simp ; omega); intro v23 w23 ho_ hg_ hat_; have HO23 := Lib.hid ho_; have HG23 := Lib.hid (And.intro hg_ hat_); clear ho_ hg_ hat_)))
          go_roundw
          case rel => exact ⟨3, by omega, rfl, Lib.hid (by rw [take_hexI_2, HD.out, ← dig_at d (show d < digLit.size from hd16)]; exact HO23.out), hb.grown HG23.out.1 (by first | exact hb.size | (simp; have := hb.size; omega)) (fun k hk => HR.out.base_le k hk)⟩
          case measure => decide
        · obtain ⟨d, hd⟩ : ∃ d, r / 65536 % 16 = d := ⟨_, rfl⟩
          have hd16 : d < 16 := by omega
          have eb : bits .and .u32 ((r : Int) / 65536) 15 = (d : Int) := by rw [← hd]; exact and15I ((r : Int) / 65536) (by omega) (by omega) (by omega)
          have y1 : (d : Int) < 16 := by omega
          have y2 : (0 : Int) ≤ (d : Int) := by omega
          have HD := Lib.hid hd
          clear hd
          simp only [show (28 : Int) - 4 * ((3 : Nat) : Int) = 16 by decide]
          go_wp2_with (at_builtin; go_must ((refine apBb w.heap.size (o := ⟨some 23, _, _, _, _, _⟩) rfl (.tmp 16) (.tmp 22) rfl u4 ((hexI r).take 3) ?y23 ?x23 ?o23 ?b23 HL.out  ?_; (case y23 => rfl); (case x23 => go_simp); (case o23 => exact HR.out); (case b23 => have := hb.size ; simp ; omega); intro v23 w23 ho_ hg_ hat_; have HO23 := Lib.hid ho_; have HG23 := Lib.hid (And.intro hg_ hat_); clear ho_ hg_ hat_)))
          go_roundw
          case rel => exact ⟨4, by omega, rfl, Lib.hid (by rw [take_hexI_3, HD.out, ← dig_at d (show d < digLit.size from hd16)]; exact HO23.out), hb.grown HG23.out.1 (by first | exact hb.size | (simp; have := hb.size; omega)) (fun k hk => HR.out.base_le k hk)⟩
          case measure => decide
        · obtain ⟨d, hd⟩ : ∃ d, r / 4096 % 16 = d := ⟨_, rfl⟩
          have hd16 : d < 16 := by omega
          have eb : bits .and .u32 ((r : Int) / 4096) 15 = (d : Int) := by rw [← hd]; exact and15I ((r : Int) / 4096) (by omega) (by omega) (by omega)
          have y1 : (d : Int) < 16 := by omega
          have y2 : (0 : Int) ≤ (d : Int) := by omega
          have HD := Lib.hid hd
          clear hd
          simp only [show (28 : Int) - 4 * ((4 : Nat) : Int) = 12 by decide]
          go_wp2_with (at_builtin; go_must ((refine apBb w.heap.size (o := ⟨some 23, _, _, _, _, _⟩) rfl (.tmp 16) (.tmp 22) rfl u4 ((hexI r).take 4) ?y23 ?x23 ?o23 ?b23 HL.out  ?_; (case y23 => rfl); (case x23 => go_simp); (case o23 => exact HR.out); (case b23 => have := hb.size ; simp ; omega); intro v23 w23 ho_ hg_ hat_; have HO23 := Lib.hid ho_; have HG23 := Lib.hid (And.intro hg_ hat_); clear ho_ hg_ hat_)))
          go_roundw
          case rel => exact ⟨5, by omega, rfl, Lib.hid (by rw [take_hexI_4, HD.out, ← dig_at d (show d < digLit.size from hd16)]; exact HO23.out), hb.grown HG23.out.1 (by first | exact hb.size | (simp; have := hb.size; omega)) (fun k hk => HR.out.base_le k hk)⟩
          case measure => decide
        · obtain ⟨d, hd⟩ : ∃ d, r / 256 % 16 = d := ⟨_, rfl⟩
          have hd16 : d < 16 := by omega
          have eb : bits .and .u32 ((r : Int) / 256) 15 = (d : Int) := by rw [← hd]; exact and15I ((r : Int) / 256) (by omega) (by omega) (by omega)
          have y1 : (d : Int) < 16 := by omega
          have y2 : (0 : Int) ≤ (d : Int) := by omega
          have HD := Lib.hid hd
          clear hd
          simp only [show (28 : Int) - 4 * ((5 : Nat) : Int) = 8 by decide]
          go_wp2_with (at_builtin; go_must ((refine apBb w.heap.size (o := ⟨some 23, _, _, _, _, _⟩) rfl (.tmp 16) (.tmp 22) rfl u4 ((hexI r).take 5) ?y23 ?x23 ?o23 ?b23 HL.out  ?_; (case y23 => rfl); (case x23 => go_simp); (case o23 => exact HR.out); (case b23 => have := hb.size ; simp ; omega); intro v23 w23 ho_ hg_ hat_; have HO23 := Lib.hid ho_; have HG23 := Lib.hid (And.intro hg_ hat_); clear ho_ hg_ hat_)))
          go_roundw
          case rel => exact ⟨6, by omega, rfl, Lib.hid (by rw [take_hexI_5, HD.out, ← dig_at d (show d < digLit.size from hd16)]; exact HO23.out), hb.grown HG23.out.1 (by first | exact hb.size | (simp; have := hb.size; omega)) (fun k hk => HR.out.base_le k hk)⟩
          case measure => decide
        · obtain ⟨d, hd⟩ : ∃ d, r / 16 % 16 = d := ⟨_, rfl⟩
          have hd16 : d < 16 := by omega
          have eb : bits .and .u32 ((r : Int) / 16) 15 = (d : Int) := by rw [← hd]; exact and15I ((r : Int) / 16) (by omega) (by omega) (by omega)
          have y1 : (d : Int) < 16 := by omega
          have y2 : (0 : Int) ≤ (d : Int) := by omega
          have HD := Lib.hid hd
          clear hd
          simp only [show (28 : Int) - 4 * ((6 : Nat) : Int) = 4 by decide]
          go_wp2_with (at_builtin; go_must ((refine apBb w.heap.size (o := ⟨some 23, _, _, _, _, _⟩) rfl (.tmp 16) (.tmp 22) rfl u4 ((hexI r).take 6) ?y23 ?x23 ?o23 ?b23 HL.out  ?_; (case y23 => rfl); (case x23 => go_simp); (case o23 => exact HR.out); (case b23 => have := hb.size ; simp ; omega); intro v23 w23 ho_ hg_ hat_; have HO23 := Lib.hid ho_; have HG23 := Lib.hid (And.intro hg_ hat_); clear ho_ hg_ hat_)))
          go_roundw
          case rel => exact ⟨7, by omega, rfl, Lib.hid (by rw [take_hexI_6, HD.out, ← dig_at d (show d < digLit.size from hd16)]; exact HO23.out), hb.grown HG23.out.1 (by first | exact hb.size | (simp; have := hb.size; omega)) (fun k hk => HR.out.base_le k hk)⟩
          case measure => decide
        · obtain ⟨d, hd⟩ : ∃ d, r % 16 = d := ⟨_, rfl⟩
          have hd16 : d < 16 := by omega
          have eb : bits .and .u32 (r : Int) 15 = (d : Int) := by rw [← hd]; exact and15I (r : Int) (by omega) (by omega) (by omega)
          have y1 : (d : Int) < 16 := by omega
          have y2 : (0 : Int) ≤ (d : Int) := by omega
          have HD := Lib.hid hd
          clear hd
          simp only [show (28 : Int) - 4 * ((7 : Nat) : Int) = 0 by decide]
          go_wp2_with (at_builtin; go_must ((refine apBb w.heap.size (o := ⟨some 23, _, _, _, _, _⟩) rfl (.tmp 16) (.tmp 22) rfl u4 ((hexI r).take 7) ?y23 ?x23 ?o23 ?b23 HL.out  ?_; (case y23 => rfl); (case x23 => go_simp); (case o23 => exact HR.out); (case b23 => have := hb.size ; simp ; omega); intro v23 w23 ho_ hg_ hat_; have HO23 := Lib.hid ho_; have HG23 := Lib.hid (And.intro hg_ hat_); clear ho_ hg_ hat_)))
          go_roundw
          case rel => exact ⟨8, by omega, rfl, Lib.hid (by rw [take_hexI_7, HD.out, ← dig_at d (show d < digLit.size from hd16)]; exact HO23.out), hb.grown HG23.out.1 (by first | exact hb.size | (simp; have := hb.size; omega)) (fun k hk => HR.out.base_le k hk)⟩
          case measure => decide
      · have hm8 : m = 8 := by omega
        subst hm8
        have hR8 : RW kB 5 wr w.heap.size u4 (hexI r) := HR.out
        obtain ⟨b, off, c, rfl, hconv⟩ := str_of_row hR8
        clear hR8 HR
        simp only [show (28 : Int) - 4 * ((8 : Nat) : Int) = -4 by decide]
        go_wp2
        go_ret
        exact ⟨rfl, hb⟩
  · obtain rfl : nanW = x := by rw [← h.1, cn_of_isn hn]
    rw [hn] at hf
    clear h
    go_enter Tryd.func56, Tryd.ntmps56
    go_wp2
    go_ret
    exact ⟨rfl, Below.refl _ _⟩
theorem hexI_get (x : Nat) : ∀ k, k < 8 → (hexI x)[k]? = some ((hexD (x / 16 ^ (7 - k) % 16)).toNat : Int) := by
  intro k hk
  have hc : k = 0 ∨ k = 1 ∨ k = 2 ∨ k = 3 ∨ k = 4 ∨ k = 5 ∨ k = 6 ∨ k = 7 := by omega
  rcases hc with rfl | rfl | rfl | rfl | rfl | rfl | rfl | rfl
  all_goals (unfold hexI hexL; simp)
set_option maxHeartbeats 8000000 in
theorem l01Hex_any (r x : Nat) (h : FV r x) (w : World) : Calls Tryd.prog 54 #[.float .f32 r] w fun e w' => e = .returned (.string ⟨(hexL x).toArray⟩) ∧ Below w.heap.size w w' := by
  have HB := Lib.hid (l01Bits_any r x h)
  have hx : x < 4294967296 := by rw [← h.1]; exact cn_lt h.2
  clear h
  go_enter Tryd.func54, Tryd.ntmps54
  go_wp2_with (first | (go_at_call 60; refine (HB.out _).mono ?_; rintro e w' ⟨rfl, rfl⟩) | (refine Kd.R_make kB (w0 := w) w.heap.size 5 rfl (N := 8) rfl 35 _ _ rfl (8 : Int) rfl rfl Tryd.underlying35 (.int .u8 0) 1 info_byte rfl (by decide) (by decide) 0 (ok := fun _ => True) (okp := fun _ => True) rfl (fun _ hk => hk) trivial (by decide) (by decide) (Below.refl _ _) (Nat.le_refl _) ?_; intro v1 w1 ho1 hb1 hg1 hnew1; clear hg1 hnew1; have HO1 := Lib.hid ho1; clear ho1))
  go_loopw [3, 5] (fun b i wr => ∃ (n y : Nat) (ys : List Int), n ≤ 8 ∧ b = .int .u32 (y : Nat) ∧ Hid (y = x / 16 ^ (8 - n)) ∧ i = .int .i64 ((n : Int) - 1) ∧ Hid (RW kB 5 wr w.heap.size v1 ys) ∧ Hid (ys.length = 8) ∧ Hid (∀ j, n ≤ j → j < 8 → ys[j]? = (hexI x)[j]?) ∧ Below w.heap.size w wr) (fun _ i _ => ((intOf i) + 1).toNat)
  case atStart => exact ⟨8, x, _, Nat.le_refl _, rfl, Lib.hid (by simp), rfl, HO1, Lib.hid rfl, Lib.hid (fun j h1 h2 => by omega), hb1⟩
  case round =>
    obtain ⟨n, y, ys, hn, rfl, HY, rfl, HR, HL, HE, hb⟩ := hrel
    clear HO1 hb1
    cases n with
    | zero =>
      have e : ys = hexI x := List.ext_getElem? fun j => by
        by_cases hj : j < 8
        · exact HE.out j (Nat.zero_le _) hj
        · rw [List.getElem?_eq_none (by have := HL.out; omega), List.getElem?_eq_none (by rw [hexI_length]; omega)]
      have hR8 : RW kB 5 wr w.heap.size v1 (hexI x) := e ▸ HR.out
      obtain ⟨b, off, c, rfl, hconv⟩ := str_of_row hR8
      clear hR8 HR e HE
      simp only [show ((0 : Nat) : Int) - 1 = -1 by decide]
      go_wp2
      go_ret
      exact ⟨rfl, hb⟩
    | succ k =>
      have hpos : 0 < ys.length := by have := HL.out; omega
      have hkl : k < ys.length := by have := HL.out; omega
      obtain ⟨g, cap, rfl, hge, hglt, _⟩ := Kd.R_form HR.out hpos
      obtain ⟨ce, hcl, hM, hcc, hfr⟩ := Kd.R_elem HR.out 0 (k : Int) (by omega) (by omega)
      have hce : ∃ u : Int, ce = [.int .u8 u] := ⟨_, hM⟩
      obtain ⟨u0, rfl⟩ := hce
      have x0 : wr.cell? ⟨g, k, none⟩ = some (.int .u8 u0) := by have := hcc 0 _ rfl; rwa [show (k : Int).toNat * kB.sz + 0 = k from by show k * 1 + 0 = k; omega] at this
      have f0 : wr.frozen? ⟨g, k, none⟩ = false := by have := hfr 0; rwa [show (k : Int).toNat * kB.sz + 0 = k from by show k * 1 + 0 = k; omega] at this
      obtain ⟨d, hd⟩ : ∃ d, y % 16 = d := ⟨_, rfl⟩
      have hd16 : d < 16 := by omega
      have ed : (y : Int) % 16 = (d : Int) := by omega
      have y1 : (d : Int) < 16 := by omega
      have y2 : (0 : Int) ≤ (d : Int) := by omega
      have HS0 := (Kd.R_seg HR.out (k : Int) (by omega) (by omega) (seg := [.int .u8 ((hexD d).toNat : Int)]) (j := 0) hcl hcc (show 1 ≤ 1 from Nat.le_refl 1) (x' := ((hexD d).toNat : Int)) rfl (fun _ h => h)).1
      have e1 : wr.setCells g ((k : Int).toNat * kB.sz + 0) [.int .u8 ((hexD d).toNat : Int)] = wr.setCell ⟨g, k, none⟩ (.int .u8 ((hexD d).toNat : Int)) := by show wr.setCell ⟨g, k * 1 + 0, none⟩ _ = _; rw [show k * 1 + 0 = k from by omega]
      rw [e1] at HS0
      have HS := Lib.hid HS0
      have HD := Lib.hid hd
      have HLN := Lib.hid HL.out
      have hl8 : (k : Int) < (ys.length : Int) := by omega
      have hk0 : (0 : Int) ≤ (k : Int) := by omega
      clear hcl hM hcc hfr HS0 e1 hd
      simp only [show ((k + 1 : Nat) : Int) - 1 = (k : Int) by omega]
      have hyl : y < 4294967296 := by have h1 := HY.out; have h2 := Nat.div_le_self x (16 ^ (8 - (k + 1))); omega
      go_wp2
      go_roundw
      case rel =>
        refine ⟨k, y / 16, ys.set k ((hexD d).toNat : Int), by omega, ?_, Lib.hid ?_, rfl, Lib.hid ?_, Lib.hid (by rw [List.length_set]; exact HLN.out), Lib.hid (fun j hj1 hj2 => ?_), hb.setCell hge _⟩
        · first | (congr 1; done) | (congr 1; omega)
        · have h1 := HY.out
          rw [show 8 - k = (8 - (k + 1)) + 1 by omega, Nat.pow_succ, ← Nat.div_div_eq_div_mul, ← h1]
        · show RW kB 5 (wr.setCell ⟨g, k, none⟩ (.int .u8 ((digLit[d]'(show d < digLit.size from hd16)).toNat : Int))) w.heap.size _ (ys.set k ((hexD d).toNat : Int))
          rw [dig_at d (show d < digLit.size from hd16)]
          exact HS.out
        · rw [List.getElem?_set]
          by_cases hjk : k = j
          · subst hjk
            rw [if_pos rfl, if_pos hkl, hexI_get x k hj2, ← HD.out, HY.out]
            rw [show 8 - (k + 1) = 7 - k by omega]
          · rw [if_neg hjk]
            exact HE.out j (by omega) hj2
      case measure => first | (simp [intOf]; done) | (simp [intOf]; omega)
end Go.Proofs.YtljcjgliddhgkaaDoor
