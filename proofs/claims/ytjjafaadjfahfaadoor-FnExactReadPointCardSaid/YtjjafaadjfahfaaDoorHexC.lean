/- Numbers as texts: the contracts. -/
import Derived.Test.YtjjafaadjfahfaaDoorHex
import Derived.Test.YtjjafaadjfahfaaDoorSame
import Derived.Test.YtjjafaadjfahfaaDoorRow
import Derived.Test.YtjjafaadjfahfaaDoorDrw
import Derived.Laws.IdiomStrings
namespace Go.Proofs.YtjjafaadjfahfaaDoor
open Go.RowKit Ieee
open Go.Proofs.YtjjafaadjfahfaaDoorW.PrintWords
set_option maxRecDepth 100000
attribute [local irreducible] wpRel
theorem l01Bits_any (r x : Nat) (h : FV r x) (w : World) : Calls Tryd.prog 13 #[.float .f32 r] w fun e w' => e = .returned (.int .u32 x) ∧ w = w' := by
  have hbits := bits_run
  have hf := feq_self r
  cases hn : isn r
  · obtain rfl : r = x := by rw [← h.1, cn_of_not hn]
    rw [hn] at hf
    clear h
    go_enter Tryd.func13, Tryd.ntmps13
    go_wp2
    go_ret
    exact ⟨rfl, rfl⟩
  · obtain rfl : nanW = x := by rw [← h.1, cn_of_isn hn]
    rw [hn] at hf
    clear h
    go_enter Tryd.func13, Tryd.ntmps13
    go_wp2
    go_ret
    exact ⟨rfl, rfl⟩
/-- The bytes of a number's text, as whole numbers. -/
def hexI (x : Nat) : List Int := (hexL x).map fun b => (b.toNat : Int)
theorem hexI_length (x : Nat) : (hexI x).length = 8 := rfl
section
variable {ops : Array Oper} {rest : List Oper} {o : Oper} {a : Act} {Q : Exit → Act → World → Prop}
theorem info_byte : (Tryd.prog.info? 5).map (fun i => (i.zero, i.size, i.bytes)) = some (some (.int .u8 0), 1, 1) := by kernel_rfl
/-- append(v, x) of one byte, whichever base. -/
theorem apBb (base : Nat) {W : World} {z : Int} (hgd : o.guard = none) (s x : Operand) (ho : o.op = .call { callee := .builtin .append, args := #[s, x], argTypes := #[50, 50] })
    (v : Value) (xs : List Int) (hs : a.eval s = v) (hx : a.eval x = .slice (some ⟨W.heap.size, 0, none⟩) 1 1)
    (HO : RW kB 5 W base v xs) (hb : base ≤ W.heap.size) (hl : xs.length ≤ 1048576)
    (h : ∀ v1 w1, RW kB 5 w1 base v1 (xs ++ [z]) → W.grownBy w1 v.ownBlock → (v1.ownBlock = v.ownBlock ∨ ∃ b, v1.ownBlock = some b ∧ W.heap.size ≤ b) → wpList Tryd.prog ops Q rest (a.put o.dst v1) w1) :
    wpList Tryd.prog ops Q (o :: rest) a (W.alloc (.cells #[.int .u8 z] 5)) :=
  Kd.R_append kB (w0 := W) base hgd s x 50 5 (.int .u8 0) 1 ho Tryd.underlying50 info_byte rfl (by decide) (by decide) v xs z [.int .u8 z] (fun _ => True) (fun _ => False) hs hx rfl (fun _ h => h.elim) (fun _ _ => trivial) HO (Below.refl _ _) hb (by omega) fun v1 w1 h1 _ h2 h3 => h v1 w1 h1 h2 h3
end
def digLit : ByteArray := ⟨#[48, 49, 50, 51, 52, 53, 54, 55, 56, 57, 97, 98, 99, 100, 101, 102]⟩
theorem dig_at : ∀ (k : Nat) (h : k < digLit.size), (digLit[k]'h).toNat = (hexD k).toNat := by
  intro k h
  have h' : k < 16 := h
  have hc : k = 0 ∨ k = 1 ∨ k = 2 ∨ k = 3 ∨ k = 4 ∨ k = 5 ∨ k = 6 ∨ k = 7 ∨ k = 8 ∨ k = 9 ∨ k = 10 ∨ k = 11 ∨ k = 12 ∨ k = 13 ∨ k = 14 ∨ k = 15 := by omega
  rcases hc with rfl | rfl | rfl | rfl | rfl | rfl | rfl | rfl | rfl | rfl | rfl | rfl | rfl | rfl | rfl | rfl <;> rfl
theorem and15 {y : Nat} (h : y < 4294967296) : (bits .and .u32 (y : Int) 15).toNat = y % 16 := by
  have e : bits .and .u32 (y : Int) 15 = (y : Int) % 16 := bits_mask .u32 32 (by decide) wraps_u32 4 (by decide) _ (by omega) (by omega)
  rw [e]
  omega
theorem take_hexI_0 (r : Nat) : (hexI r).take 1 = (hexI r).take 0 ++ [((hexD (r / 268435456 % 16)).toNat : Int)] := rfl
theorem take_hexI_1 (r : Nat) : (hexI r).take 2 = (hexI r).take 1 ++ [((hexD (r / 16777216 % 16)).toNat : Int)] := rfl
theorem take_hexI_2 (r : Nat) : (hexI r).take 3 = (hexI r).take 2 ++ [((hexD (r / 1048576 % 16)).toNat : Int)] := rfl
theorem take_hexI_3 (r : Nat) : (hexI r).take 4 = (hexI r).take 3 ++ [((hexD (r / 65536 % 16)).toNat : Int)] := rfl
theorem take_hexI_4 (r : Nat) : (hexI r).take 5 = (hexI r).take 4 ++ [((hexD (r / 4096 % 16)).toNat : Int)] := rfl
theorem take_hexI_5 (r : Nat) : (hexI r).take 6 = (hexI r).take 5 ++ [((hexD (r / 256 % 16)).toNat : Int)] := rfl
theorem take_hexI_6 (r : Nat) : (hexI r).take 7 = (hexI r).take 6 ++ [((hexD (r / 16 % 16)).toNat : Int)] := rfl
theorem take_hexI_7 (r : Nat) : (hexI r).take 8 = (hexI r).take 7 ++ [((hexD (r % 16)).toNat : Int)] := rfl
theorem and15I (y : Int) {n : Nat} (h0 : 0 ≤ y) (h1 : y < 4294967296) (hn : (y % 16) = (n : Int)) : bits .and .u32 y 15 = (n : Int) := by
  have e : bits .and .u32 y 15 = y % 16 := bits_mask .u32 32 (by decide) wraps_u32 4 (by decide) _ (by omega) (by omega)
  rw [e, hn]
/-- A text out of the row of its bytes. -/
theorem str_of_row {w : World} {base : Nat} {v : Value} {x : Nat} (h : RW kB 5 w base v (hexI x)) :
    ∃ b off c, v = .slice (some ⟨b, off, none⟩) 8 c ∧ (convert 50 9 (.slice (some ⟨b, off, none⟩) 8 c)).run Tryd.prog w = .ok (.string ⟨(hexL x).toArray⟩) w := by
  obtain ⟨A, c, hv, _, hC⟩ := h.reads
  have hC' : Kd.C kB w A 8 (hexI x) := hC
  have hv' : v = .slice A 8 c := hv
  obtain ⟨b, off, _, e, _, _, _, _⟩ := C_at hC' (show 0 < kB.sz by decide) 0 0 (by decide)
  subst e
  refine ⟨b, off, c, hv', run_convert_bytes_back (P := Tryd.prog) w 50 9 5 ⟨b, off, none⟩ c (hexL x) Tryd.underlying50 Tryd.underlying5 Tryd.underlying9 (fun j hj => ?_)⟩
  have hj8 : j < 8 := hj
  obtain ⟨b', off', cs, e, _, _, hK, hc⟩ := C_at hC' (show 0 < kB.sz by decide) 0 j hj8
  injection e with e
  injection e with e1 e2
  subst e1 e2
  have hK' : cs = [.int .u8 ((hexI x).getD j 0)] := hK
  subst hK'
  have := hc 0 _ rfl
  rw [show (⟨b, off, none⟩ : Addr).add j = ⟨b, off + j * kB.sz + 0, none⟩ from by rw [show kB.sz = 1 from rfl]; unfold Addr.add; by_cases hj0 : j = 0 <;> simp [hj0]]
  rw [this]
  congr 2
  unfold hexI
  rw [List.getD_eq_getElem?_getD, List.getElem?_map, List.getElem?_eq_getElem hj]
  rfl
set_option maxHeartbeats 8000000 in
theorem numberText_impl (r x : Nat) (h : FV r x) (w : World) : Calls Tryd.prog 18 #[.float .f32 r] w fun e w' => e = .returned (.string ⟨(hexL x).toArray⟩) ∧ Below w.heap.size w w' := by
  have hbits := bits_run
  have hf := feq_self r
  cases hn : isn r
  · obtain rfl : r = x := by rw [← h.1, cn_of_not hn]
    rw [hn] at hf
    have hlt := h.2
    clear h
    have HR0 := Lib.hid (RW.empty (w := w.alloc (.cells #[] 5)) kB 5 w.heap.size w.heap.size (heap_alloc_new w _) (Nat.le_refl _))
    go_enter Tryd.func18, Tryd.ntmps18
    go_wp2
    go_loopw [4, 5] (fun v i wr => ∃ m : Nat, m ≤ 8 ∧ i = .int .i64 (28 - 4 * (m : Int)) ∧ Hid (RW kB 5 wr w.heap.size v ((hexI r).take m)) ∧ Below w.heap.size w wr) (fun _ i _ => ((intOf i) + 4).toNat)
    case atStart => exact ⟨0, Nat.zero_le _, rfl, HR0, balloc (Below.refl _ _) _⟩
    case round =>
      clear HR0
      obtain ⟨m, hm, rfl, HR, hb⟩ := hrel
      by_cases hlt2 : m < 8
      · have HL := Lib.hid (show ((hexI r).take m).length ≤ 1048576 from by rw [List.length_take, hexI_length]; omega)
        have hcase : m = 0 ∨ m = 1 ∨ m = 2 ∨ m = 3 ∨ m = 4 ∨ m = 5 ∨ m = 6 ∨ m = 7 := by omega
        rcases hcase with rfl | rfl | rfl | rfl | rfl | rfl | rfl | rfl
        · obtain ⟨d, hd⟩ : ∃ d, r / 268435456 % 16 = d := ⟨_, rfl⟩
          have hd16 : d < 16 := by omega
          have eb : bits .and .u32 ((r : Int) / 268435456) 15 = (d : Int) := by rw [← hd]; exact and15I ((r : Int) / 268435456) (by omega) (by omega) (by omega)
          have y1 : (d : Int) < 16 := by omega
          have y2 : (0 : Int) ≤ (d : Int) := by omega
          have HD := Lib.hid hd
          clear hd
          simp only [show (28 : Int) - 4 * ((0 : Nat) : Int) = 28 by decide]
          go_wp2_with (at_builtin; go_must ((refine apBb w.heap.size (o := ⟨some 23, _, _, _, _, _⟩) rfl (.tmp 16) (.tmp 22) rfl u4 ((hexI r).take 0) ?y23 ?x23 ?o23 ?b23 HL.out  ?_; (case y23 => rfl); (case x23 => go_simp); (case o23 => exact HR.out); (case b23 => have := hb.size ; simp ; omega); intro v23 w23 ho_ hg_ hat_; have HO23 := Lib.hid ho_; have HG23 := Lib.hid (And.intro hg_ hat_); clear ho_ hg_ hat_)))
          go_roundw
          case rel => exact ⟨1, by omega, rfl, Lib.hid (by rw [take_hexI_0, HD.out, ← dig_at d (show d < digLit.size from hd16)]; exact HO23.out), hb.grown HG23.out.1 (by first | exact hb.size | (simp; have := hb.size; omega)) (fun k hk => HR.out.base_le k hk)⟩
          case measure => decide
        · obtain ⟨d, hd⟩ : ∃ d, r / 16777216 % 16 = d := ⟨_, rfl⟩
          have hd16 : d < 16 := by omega
          have eb : bits .and .u32 ((r : Int) / 16777216) 15 = (d : Int) := by rw [← hd]; exact and15I ((r : Int) / 16777216) (by omega) (by omega) (by omega)
          have y1 : (d : Int) < 16 := by omega
          have y2 : (0 : Int) ≤ (d : Int) := by omega
          have HD := Lib.hid hd
          clear hd
          simp only [show (28 : Int) - 4 * ((1 : Nat) : Int) = 24 by decide]
          go_wp2_with (at_builtin; go_must ((refine apBb w.heap.size (o := ⟨some 23, _, _, _, _, _⟩) rfl (.tmp 16) (.tmp 22) rfl u4 ((hexI r).take 1) ?y23 ?x23 ?o23 ?b23 HL.out  ?_; (case y23 => rfl); (case x23 => go_simp); (case o23 => exact HR.out); (case b23 => have := hb.size ; simp ; omega); intro v23 w23 ho_ hg_ hat_; have HO23 := Lib.hid ho_; have HG23 := Lib.hid (And.intro hg_ hat_); clear ho_ hg_ hat_)))
          go_roundw
          case rel => exact ⟨2, by omega, rfl, Lib.hid (by rw [take_hexI_1, HD.out, ← dig_at d (show d < digLit.size from hd16)]; exact HO23.out), hb.grown HG23.out.1 (by first | exact hb.size | (simp; have := hb.size; omega)) (fun k hk => HR.out.base_le k hk)⟩
          case measure => decide
        · obtain ⟨d, hd⟩ : ∃ d, r / 1048576 % 16 = d := ⟨_, rfl⟩
          have hd16 : d < 16 := by omega
          have eb : bits .and .u32 ((r : Int) / 1048576) 15 = (d : Int) := by rw [← hd]; exact and15I ((r : Int) / 1048576) (by omega) (by omega) (by omega)
          have y1 : (d : Int) < 16 := by omega
          have y2 : (0 : Int) ≤ (d : Int) := by omega
          have HD := Lib.hid hd
          clear hd
          simp only [show (28 : Int) - 4 * ((2 : Nat) : Int) = 20 by decide]
          go_wp2_with (at_builtin; go_must ((refine apBb w.heap.size (o := ⟨some 23, _, _, _, _, _⟩) rfl (.tmp 16) (.tmp 22) rfl u4 ((hexI r).take 2) ?y23 ?x23 ?o23 ?b23 HL.out  ?_; (case y23 => rfl); (case x23 => go_simp); (case o23 => exact HR.out); (case b23 => have := hb.size ; simp ; omega); intro v23 w23 ho_ hg_ hat_; have HO23 := Lib.hid ho_; have HG23 := Lib.hid (And.intro hg_ hat_); clear ho_ hg_ hat_)))
          go_roundw
          case rel => exact ⟨3, by omega, rfl, Lib.hid (by rw [take_hexI_2, HD.out, ← dig_at d (show d < digLit.size from hd16)]; exact HO23.out), hb.grown HG23.out.1 (by first | exact hb.size | (simp; have := hb.size; omega)) (fun k hk => HR.out.base_le k hk)⟩
          case measure => decide
        · obtain ⟨d, hd⟩ : ∃ d, r / 65536 % 16 = d := ⟨_, rfl⟩
          have hd16 : d < 16 := by omega
          have eb : bits .and .u32 ((r : Int) / 65536) 15 = (d : Int) := by rw [← hd]; exact and15I ((r : Int) / 65536) (by omega) (by omega) (by omega)
          have y1 : (d : Int) < 16 := by omega
          have y2 : (0 : Int) ≤ (d : Int) := by omega
          have HD := Lib.hid hd
          clear hd
          simp only [show (28 : Int) - 4 * ((3 : Nat) : Int) = 16 by decide]
          go_wp2_with (at_builtin; go_must ((refine apBb w.heap.size (o := ⟨some 23, _, _, _, _, _⟩) rfl (.tmp 16) (.tmp 22) rfl u4 ((hexI r).take 3) ?y23 ?x23 ?o23 ?b23 HL.out  ?_; (case y23 => rfl); (case x23 => go_simp); (case o23 => exact HR.out); (case b23 => have := hb.size ; simp ; omega); intro v23 w23 ho_ hg_ hat_; have HO23 := Lib.hid ho_; have HG23 := Lib.hid (And.intro hg_ hat_); clear ho_ hg_ hat_)))
          go_roundw
          case rel => exact ⟨4, by omega, rfl, Lib.hid (by rw [take_hexI_3, HD.out, ← dig_at d (show d < digLit.size from hd16)]; exact HO23.out), hb.grown HG23.out.1 (by first | exact hb.size | (simp; have := hb.size; omega)) (fun k hk => HR.out.base_le k hk)⟩
          case measure => decide
        · obtain ⟨d, hd⟩ : ∃ d, r / 4096 % 16 = d := ⟨_, rfl⟩
          have hd16 : d < 16 := by omega
          have eb : bits .and .u32 ((r : Int) / 4096) 15 = (d : Int) := by rw [← hd]; exact and15I ((r : Int) / 4096) (by omega) (by omega) (by omega)
          have y1 : (d : Int) < 16 := by omega
          have y2 : (0 : Int) ≤ (d : Int) := by omega
          have HD := Lib.hid hd
          clear hd
          simp only [show (28 : Int) - 4 * ((4 : Nat) : Int) = 12 by decide]
          go_wp2_with (at_builtin; go_must ((refine apBb w.heap.size (o := ⟨some 23, _, _, _, _, _⟩) rfl (.tmp 16) (.tmp 22) rfl u4 ((hexI r).take 4) ?y23 ?x23 ?o23 ?b23 HL.out  ?_; (case y23 => rfl); (case x23 => go_simp); (case o23 => exact HR.out); (case b23 => have := hb.size ; simp ; omega); intro v23 w23 ho_ hg_ hat_; have HO23 := Lib.hid ho_; have HG23 := Lib.hid (And.intro hg_ hat_); clear ho_ hg_ hat_)))
          go_roundw
          case rel => exact ⟨5, by omega, rfl, Lib.hid (by rw [take_hexI_4, HD.out, ← dig_at d (show d < digLit.size from hd16)]; exact HO23.out), hb.grown HG23.out.1 (by first | exact hb.size | (simp; have := hb.size; omega)) (fun k hk => HR.out.base_le k hk)⟩
          case measure => decide
        · obtain ⟨d, hd⟩ : ∃ d, r / 256 % 16 = d := ⟨_, rfl⟩
          have hd16 : d < 16 := by omega
          have eb : bits .and .u32 ((r : Int) / 256) 15 = (d : Int) := by rw [← hd]; exact and15I ((r : Int) / 256) (by omega) (by omega) (by omega)
          have y1 : (d : Int) < 16 := by omega
          have y2 : (0 : Int) ≤ (d : Int) := by omega
          have HD := Lib.hid hd
          clear hd
          simp only [show (28 : Int) - 4 * ((5 : Nat) : Int) = 8 by decide]
          go_wp2_with (at_builtin; go_must ((refine apBb w.heap.size (o := ⟨some 23, _, _, _, _, _⟩) rfl (.tmp 16) (.tmp 22) rfl u4 ((hexI r).take 5) ?y23 ?x23 ?o23 ?b23 HL.out  ?_; (case y23 => rfl); (case x23 => go_simp); (case o23 => exact HR.out); (case b23 => have := hb.size ; simp ; omega); intro v23 w23 ho_ hg_ hat_; have HO23 := Lib.hid ho_; have HG23 := Lib.hid (And.intro hg_ hat_); clear ho_ hg_ hat_)))
          go_roundw
          case rel => exact ⟨6, by omega, rfl, Lib.hid (by rw [take_hexI_5, HD.out, ← dig_at d (show d < digLit.size from hd16)]; exact HO23.out), hb.grown HG23.out.1 (by first | exact hb.size | (simp; have := hb.size; omega)) (fun k hk => HR.out.base_le k hk)⟩
          case measure => decide
        · obtain ⟨d, hd⟩ : ∃ d, r / 16 % 16 = d := ⟨_, rfl⟩
          have hd16 : d < 16 := by omega
          have eb : bits .and .u32 ((r : Int) / 16) 15 = (d : Int) := by rw [← hd]; exact and15I ((r : Int) / 16) (by omega) (by omega) (by omega)
          have y1 : (d : Int) < 16 := by omega
          have y2 : (0 : Int) ≤ (d : Int) := by omega
          have HD := Lib.hid hd
          clear hd
          simp only [show (28 : Int) - 4 * ((6 : Nat) : Int) = 4 by decide]
          go_wp2_with (at_builtin; go_must ((refine apBb w.heap.size (o := ⟨some 23, _, _, _, _, _⟩) rfl (.tmp 16) (.tmp 22) rfl u4 ((hexI r).take 6) ?y23 ?x23 ?o23 ?b23 HL.out  ?_; (case y23 => rfl); (case x23 => go_simp); (case o23 => exact HR.out); (case b23 => have := hb.size ; simp ; omega); intro v23 w23 ho_ hg_ hat_; have HO23 := Lib.hid ho_; have HG23 := Lib.hid (And.intro hg_ hat_); clear ho_ hg_ hat_)))
          go_roundw
          case rel => exact ⟨7, by omega, rfl, Lib.hid (by rw [take_hexI_6, HD.out, ← dig_at d (show d < digLit.size from hd16)]; exact HO23.out), hb.grown HG23.out.1 (by first | exact hb.size | (simp; have := hb.size; omega)) (fun k hk => HR.out.base_le k hk)⟩
          case measure => decide
        · obtain ⟨d, hd⟩ : ∃ d, r % 16 = d := ⟨_, rfl⟩
          have hd16 : d < 16 := by omega
          have eb : bits .and .u32 (r : Int) 15 = (d : Int) := by rw [← hd]; exact and15I (r : Int) (by omega) (by omega) (by omega)
          have y1 : (d : Int) < 16 := by omega
          have y2 : (0 : Int) ≤ (d : Int) := by omega
          have HD := Lib.hid hd
          clear hd
          simp only [show (28 : Int) - 4 * ((7 : Nat) : Int) = 0 by decide]
          go_wp2_with (at_builtin; go_must ((refine apBb w.heap.size (o := ⟨some 23, _, _, _, _, _⟩) rfl (.tmp 16) (.tmp 22) rfl u4 ((hexI r).take 7) ?y23 ?x23 ?o23 ?b23 HL.out  ?_; (case y23 => rfl); (case x23 => go_simp); (case o23 => exact HR.out); (case b23 => have := hb.size ; simp ; omega); intro v23 w23 ho_ hg_ hat_; have HO23 := Lib.hid ho_; have HG23 := Lib.hid (And.intro hg_ hat_); clear ho_ hg_ hat_)))
          go_roundw
          case rel => exact ⟨8, by omega, rfl, Lib.hid (by rw [take_hexI_7, HD.out, ← dig_at d (show d < digLit.size from hd16)]; exact HO23.out), hb.grown HG23.out.1 (by first | exact hb.size | (simp; have := hb.size; omega)) (fun k hk => HR.out.base_le k hk)⟩
          case measure => decide
      · have hm8 : m = 8 := by omega
        subst hm8
        have hR8 : RW kB 5 wr w.heap.size u4 (hexI r) := HR.out
        obtain ⟨b, off, c, rfl, hconv⟩ := str_of_row hR8
        clear hR8 HR
        simp only [show (28 : Int) - 4 * ((8 : Nat) : Int) = -4 by decide]
        go_wp2
        go_ret
        exact ⟨rfl, hb⟩
  · obtain rfl : nanW = x := by rw [← h.1, cn_of_isn hn]
    rw [hn] at hf
    clear h
    go_enter Tryd.func18, Tryd.ntmps18
    go_wp2
    go_ret
    exact ⟨rfl, Below.refl _ _⟩
theorem hexI_get (x : Nat) : ∀ k, k < 8 → (hexI x)[k]? = some ((hexD (x / 16 ^ (7 - k) % 16)).toNat : Int) := by
  intro k hk
  have hc : k = 0 ∨ k = 1 ∨ k = 2 ∨ k = 3 ∨ k = 4 ∨ k = 5 ∨ k = 6 ∨ k = 7 := by omega
  rcases hc with rfl | rfl | rfl | rfl | rfl | rfl | rfl | rfl
  all_goals (unfold hexI hexL; simp)
end Go.Proofs.YtjjafaadjfahfaaDoor
