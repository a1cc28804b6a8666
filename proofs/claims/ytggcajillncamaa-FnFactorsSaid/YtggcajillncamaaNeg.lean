/- The negative of a single float, the size of one: nought less a number, and a number with its sign turned. -/
import Derived.Test.YtggcajillncamaaSame
namespace Go.Proofs.Ytggcajillncamaa
open Go.RowKit Ieee
set_option maxRecDepth 100000
attribute [local irreducible] wpRel

theorem neg_mod (x : Nat) : (x ^^^ 2147483648) % 2147483648 = x % 2147483648 := by
  have h := Nat.xor_mod_two_pow (a := x) (b := 2147483648) (n := 31)
  have e : (2 : Nat) ^ 31 = 2147483648 := by decide
  rw [e] at h
  rw [h]
  simp
theorem neg_lt {x : Nat} (h : x < 4294967296) : x ^^^ 2147483648 < 4294967296 := by
  have e : (2 : Nat) ^ 32 = 4294967296 := by decide
  have := Nat.xor_lt_two_pow (x := x) (y := 2147483648) (n := 32) (by rw [e]; exact h) (by rw [e]; decide)
  rwa [e] at this
theorem neg_isn (x : Nat) : isn (x ^^^ 2147483648) = isn x := by rw [isn_eq, isn_eq, neg_mod]
theorem FV_neg {r v : Nat} (h : FV r v) : FV (r ^^^ 2147483648) (fneg v) := by
  refine ⟨?_, neg_lt h.2⟩
  unfold fneg
  rw [← h.1]
  cases hn : isn r
  · rw [cn_of_not hn]
  · rw [cn_of_isn hn, cn_of_isn (by rw [neg_isn]; exact hn), cn_of_isn (by rw [neg_isn]; exact isn_nanW)]
@[go_sem high] theorem unary_negF (b : Nat) : Op.unary .neg (.float .f32 b) = pure (.float .f32 (b ^^^ 2147483648)) := rfl

/-- A number that is not nought, read and written again with any sign, its magnitude in units of the least place. -/
theorem renear (x : Nat) (h0 : 0 < frung single x) (h : frung single x < single.infRung) :
    ∃ m p, single.read x = .number (fsgn single x) m p ∧ m ≠ 0 ∧ single.leastPlace ≤ p ∧ ∀ s, single.nearest s (m <<< (p - single.leastPlace).toNat) single.leastPlace = single.word s (frung single x) := by
  have e1 : single.binade = 8388608 := rfl
  have e2 : single.infRung = 2139095040 := rfl
  have e4 : single.fractionBits = 23 := rfl
  have ep : (2 : Nat) ^ 23 = 8388608 := by decide
  have ep2 : (2 : Nat) ^ 24 = 16777216 := by decide
  unfold frung at h0 h
  unfold Format.read fsgn frung
  dsimp only
  generalize x % single.signWeight = r at *
  rw [e2] at h
  by_cases h1 : r < 8388608
  · rw [e1, if_pos h1]
    refine ⟨_, _, rfl, by omega, Int.le_refl _, fun s => ?_⟩
    have hl : r.log2 < 23 := (Nat.log2_lt (by omega)).2 (by rw [ep]; exact h1)
    have := nearest_exact single s (m := r) (by omega) single.leastPlace 0 (Int.le_refl _) (by rw [e4]; omega) (.inl rfl)
    rw [show single.leastPlace - ((0 : Nat) : Int) = single.leastPlace from by omega] at this
    rw [show (single.leastPlace - single.leastPlace).toNat = 0 from by omega] at this ⊢
    rw [this, e1, e2]
    congr 1
    omega
  · rw [e1, if_neg h1, e2, if_pos h]
    have hm : 8388608 ≤ 8388608 + r % 8388608 ∧ 8388608 + r % 8388608 < 16777216 := by omega
    refine ⟨_, _, rfl, by omega, by omega, fun s => ?_⟩
    have hl : (8388608 + r % 8388608).log2 = 23 := by
      have a1 : (8388608 + r % 8388608).log2 < 24 := (Nat.log2_lt (by omega)).2 (by rw [ep2]; exact hm.2)
      have a2 : ¬ (8388608 + r % 8388608).log2 < 23 := fun a => by have := (Nat.log2_lt (by omega)).1 a; rw [ep] at this; omega
      omega
    have := nearest_exact single s (m := 8388608 + r % 8388608) (by omega) (single.leastPlace + ((r / 8388608 - 1 : Nat) : Int)) (r / 8388608 - 1) (by omega) (by rw [e4, hl]; exact Int.le_refl _) (.inr (by rw [hl, e4]))
    rw [show single.leastPlace + ((r / 8388608 - 1 : Nat) : Int) - ((r / 8388608 - 1 : Nat) : Int) = single.leastPlace from by omega] at this
    rw [show (single.leastPlace + ((r / 8388608 - 1 : Nat) : Int) - single.leastPlace).toNat = r / 8388608 - 1 from by omega] at this ⊢
    rw [this, e1, e2]
    congr 1
    omega
theorem flt_zero_neg {a : Nat} (h : flt a 0 = true) : isn a = false ∧ fsgn single a = true ∧ 0 < frung single a := by
  have hn : isn a = false := by
    cases hn : isn a
    · rfl
    · unfold flt at h; rw [order_nl _ hn] at h; cases h
  have h0 : (single.read 0).isNaN = false := by decide
  refine ⟨hn, ?_⟩
  unfold flt at h
  rw [order_skey single single_bi hn h0] at h
  have hk : skey single a < skey single 0 := by
    have : compare (skey single a) (skey single 0) = .lt := by simpa using h
    exact Int.compare_eq_lt.1 this
  have h1 : skey single 0 = 0 := by decide
  rw [h1] at hk
  unfold skey sgnd at hk
  cases hs : fsgn single a
  · rw [hs] at hk; simp at hk; omega
  · rw [hs] at hk
    simp at hk
    exact ⟨rfl, by omega⟩
/-- Nought less a number less than nought is that number with its sign turned. -/
theorem fsub_zero {a : Nat} (ha : a < 4294967296) (h : flt a 0 = true) : fsub 0 a = fneg a := by
  obtain ⟨hn, hs, h0⟩ := flt_zero_neg h
  have e2 : single.infRung = 2139095040 := rfl
  have e3 : single.signWeight = 2147483648 := rfl
  have hr : single.read 0 = .number false 0 single.leastPlace := by decide
  have hle : frung single a ≤ single.infRung := by rw [isn_eq] at hn; unfold frung; rw [e2, e3]; simpa using hn
  have hx : a ^^^ 2147483648 = frung single a := by
    have m := neg_mod a
    have l := neg_lt ha
    have hd : a / 2147483648 = 1 := by
      unfold fsgn at hs
      rw [e3] at hs
      have : a / 2147483648 < 2 := by omega
      have h3 : a / 2147483648 % 2 = 1 := by simpa using hs
      omega
    have hd2 : (a ^^^ 2147483648) / 2147483648 = 0 := by
      have q := Nat.xor_div_two_pow (a := a) (b := 2147483648) (n := 31)
      have e : (2 : Nat) ^ 31 = 2147483648 := by decide
      rw [e, hd] at q
      rw [q]; decide
    unfold frung
    rw [e3]
    omega
  have hg : fneg a = frung single a := by
    unfold fneg
    rw [hx]
    refine cn_of_not ?_
    rw [isn_eq]
    have hm : frung single a < 2147483648 := by unfold frung; rw [e3]; exact Nat.mod_lt _ (by decide)
    rw [Nat.mod_eq_of_lt hm]
    rw [e2] at hle
    simpa using hle
  rw [hg]
  unfold fsub Format.sub
  rcases Nat.lt_or_ge (frung single a) single.infRung with hl | hl
  · obtain ⟨m, p, er, hm, hp, hw⟩ := renear a h0 hl
    rw [hr, er, hs]
    have hmin : min single.leastPlace p = single.leastPlace := by omega
    have hz : (signed false 0 (single.leastPlace - single.leastPlace).toNat + signed (!true) m (p - single.leastPlace).toNat : Int) = ((m <<< (p - single.leastPlace).toNat : Nat) : Int) := by
      simp [signed]
    have hpos : 0 < m <<< (p - single.leastPlace).toNat := by
      rw [Nat.shiftLeft_eq]; exact Nat.mul_pos (by omega) (Nat.two_pow_pos _)
    simp only [Datum.opposite, Datum.sum, hmin, hz]
    rw [if_neg (by omega)]
    have hneg : ¬ (((m <<< (p - single.leastPlace).toNat : Nat) : Int) < 0) := by omega
    simp only [Option.map_some, Option.getD_some, Format.write, Int.natAbs_natCast, hneg, decide_false]
    rw [hw]; rfl
  · have hq : frung single a = single.infRung := Nat.le_antisymm hle hl
    rw [hr, read_inf single single_bi hq, hs, hq]
    rfl
/-- The size of a number. -/
def sizeV (x : Nat) : Nat := if flt x 0 = true then fneg x else x
theorem flt_v0 {r x : Nat} (h : FV r x) : flt r 0 = flt x 0 := by
  have := flt_cn r 0
  rw [h.1, show cn 0 = 0 from by decide] at this
  exact this.symm
def SzQ (x : Nat) (w : World) (e : Ending) (w' : World) : Prop := (∃ r, e = .returned (.float .f32 r) ∧ FV r x) ∧ w = w'
theorem l01Size_any (r x : Nat) (h : FV r x) (w : World) :
    Calls Try.prog 71 #[.float .f32 r] w (SzQ (sizeV x) w) := by
  have hq := flt_v0 h
  have HN := Lib.hid (FV_neg h)
  have HX := Lib.hid h
  clear h
  cases hp : flt x 0
  · rw [hp] at hq
    have HS := Lib.hid (show sizeV x = x by unfold sizeV; rw [hp]; rfl)
    clear hp
    go_enter Try.func71, Try.ntmps71
    go_wp2
    go_ret
    exact ⟨⟨_, rfl, by rw [HS.out]; exact HX.out⟩, rfl⟩
  · rw [hp] at hq
    have HS := Lib.hid (show sizeV x = fneg x by unfold sizeV; rw [hp]; rfl)
    clear hp
    go_enter Try.func71, Try.ntmps71
    go_wp2
    go_ret
    exact ⟨⟨_, rfl, by rw [HS.out]; exact HN.out⟩, rfl⟩
def SizQ (x : Nat) (w : World) (e : Ending) (w' : World) : Prop := ∃ r, e = .returned (.float .f32 r) ∧ FV r x ∧ Drew w w'
theorem size_any (r x : Nat) (h : FV r x) (w : World) :
    Calls Try.prog 73 #[.float .f32 r] w (SizQ (sizeV x) w) := by
  have hq := flt_v0 h
  have HX := Lib.hid h
  clear h
  cases hp : flt x 0
  · rw [hp] at hq
    have HS := Lib.hid (show sizeV x = x by unfold sizeV; rw [hp]; rfl)
    clear hp
    go_enter Try.func73, Try.ntmps73
    go_wp2
    go_ret
    exact ⟨_, rfl, by rw [HS.out]; exact HX.out, Drew.refl _⟩
  · rw [hp] at hq
    have hx : x < 4294967296 := by
      have := HX.out.1
      have h2 := HX.out.2
      unfold cn at this
      split at this <;> (unfold nanW at *; omega)
    have HS := Lib.hid (show sizeV x = fsub 0 x by unfold sizeV; rw [hp, fsub_zero hx hp]; rfl)
    clear hp hx
    go_enter Try.func73, Try.ntmps73
    go_wp2_with (refine wpList_fop (o := ⟨some 6, _, _, _, _, _⟩) rfl rfl (by first | exact .inl rfl | exact .inr (.inl rfl) | exact .inr (.inr (.inl rfl)) | exact .inr (.inr (.inr rfl))) rfl rfl ?_; intro r6 n6 h6)
    go_ret
    refine ⟨_, rfl, ?_, Drew.mk _ _⟩
    rw [HS.out]
    rw [HX.out.1, show cn 0 = 0 from by decide] at h6
    exact h6
end Go.Proofs.Ytggcajillncamaa
