/- Double floats as the laws use them: single ones made wide, and compared up to the bits of a NaN. -/
import Derived.Test.YtggcajillncamaaIe
namespace Go.Proofs.Ytggcajillncamaa
open Go.RowKit Ieee

def nanW6 : Nat := 9221120237041090560
def isn6 (b : Nat) : Bool := (double.read b).isNaN
def cn6 (b : Nat) : Nat := if isn6 b = true then nanW6 else b
/-- A single word's value as a double word. -/
def widen (v : Nat) : Nat := if isn v = true then nanW6 else double.write (single.read v)
def FV6 (r v : Nat) : Prop := cn6 r = v ∧ r < 18446744073709551616

theorem double_bi : double.binade ≤ double.infRung := by decide
theorem isn6_eq (b : Nat) : isn6 b = decide (9218868437227405312 < b % 9223372036854775808) := read_isNaN double double_bi b
theorem cn6_of_not {b : Nat} (h : isn6 b = false) : cn6 b = b := by unfold cn6; simp [h]
theorem cn6_of_isn {b : Nat} (h : isn6 b = true) : cn6 b = nanW6 := by unfold cn6; simp [h]
theorem isn6_nanW6 : isn6 nanW6 = true := by decide
theorem widen_cn (b : Nat) : widen (cn b) = widen b := by
  unfold widen
  rw [isn_cn]
  cases h : isn b
  · rw [cn_of_not h]
  · rfl

theorem cut6_word (t : Nat) : isn6 ((t % 2) * 9223372036854775808 + 9218868437227405313 + (t / 2) % 4503599627370495) = true ∧ (t % 2) * 9223372036854775808 + 9218868437227405313 + (t / 2) % 4503599627370495 < 18446744073709551616 := by
  have h2 : t % 2 < 2 := Nat.mod_lt _ (by omega)
  have h3 : (t / 2) % 4503599627370495 < 4503599627370495 := Nat.mod_lt _ (by omega)
  generalize t % 2 = a at *
  generalize (t / 2) % 4503599627370495 = c at *
  rw [isn6_eq, decide_eq_true_iff]
  refine ⟨?_, by omega⟩
  have e : (a * 9223372036854775808 + 9218868437227405313 + c) % 9223372036854775808 = 9218868437227405313 + c := by
    rw [Nat.add_assoc, Nat.add_comm, Nat.add_mul_mod_self_right]
    exact Nat.mod_eq_of_lt (by omega)
  omega
theorem cut6_eq (x t : Nat) : Question.cut (.nanConv .f64 x) t = (t % 2) * 9223372036854775808 + 9218868437227405313 + (t / 2) % 4503599627370495 := by
  simp [Question.cut]
theorem cut6b_eq (x y t : Nat) : Question.cut (.nanBits .f64 x y) t = (t % 2) * 9223372036854775808 + 9218868437227405313 + (t / 2) % 4503599627370495 := by
  simp [Question.cut]

/-- What is kept of a magnitude has no more than one digit too many. -/
theorem kept_le (f : Format) (neg : Bool) {m : Nat} (hm : m ≠ 0) (p last : Int) (h : p + m.log2 - f.fractionBits ≤ last) :
    Toward.even.cut neg (m <<< (p - last).toNat) (last - p).toNat ≤ 2 ^ (f.fractionBits + 1) + m := by
  rcases Int.lt_or_le p last with hp | hp
  · have e1 : (p - last).toNat = 0 := by omega
    rw [e1, Nat.shiftLeft_zero]
    unfold Toward.cut
    dsimp only
    have h1 : m / 1 <<< min (last - p).toNat (m.log2 + 2) ≤ m := Nat.div_le_self _ _
    have h2 := Nat.two_pow_pos (f.fractionBits + 1)
    have h3 : ∀ b : Bool, b.toNat ≤ 1 := fun b => by cases b <;> simp
    exact Nat.le_trans (Nat.add_le_add h1 (h3 _)) (by omega)
  · have e1 : (last - p).toNat = 0 := by omega
    rw [e1]
    have hc : ∀ n : Nat, Toward.even.cut neg n 0 = n := fun n => by
      unfold Toward.cut
      simp [Nat.mod_one]
    rw [hc, Nat.shiftLeft_eq]
    have h1 : m < 2 ^ (m.log2 + 1) := (Nat.log2_lt hm).1 (Nat.lt_succ_self _)
    have h2 : (p - last).toNat + m.log2 ≤ f.fractionBits := by omega
    have h3 : m * 2 ^ (p - last).toNat ≤ 2 ^ (m.log2 + 1) * 2 ^ (p - last).toNat := Nat.mul_le_mul_right _ (Nat.le_of_lt h1)
    rw [← Nat.pow_add] at h3
    exact Nat.le_trans h3 (Nat.le_trans (Nat.pow_le_pow_right (by omega) (by omega)) (Nat.le_add_right _ _))

theorem read_inf (f : Format) (hb : f.binade ≤ f.infRung) {x : Nat} (h : frung f x = f.infRung) : f.read x = .infinity (fsgn f x) := by
  unfold frung at h
  unfold Format.read fsgn
  dsimp only
  rw [if_neg (by omega), if_neg (by omega), if_pos h]
theorem single_number {b : Nat} (h : frung single b < single.infRung) : ∃ m p, single.read b = .number (fsgn single b) m p ∧ m < 16777216 ∧ -149 ≤ p ∧ p ≤ 104 := by
  have e1 : single.binade = 8388608 := rfl
  have e2 : single.infRung = 2139095040 := rfl
  have e3 : single.leastPlace = -149 := rfl
  have h' : b % single.signWeight < 2139095040 := h
  clear h
  unfold Format.read fsgn
  dsimp only
  rw [e1, e2, e3]
  by_cases h1 : b % single.signWeight < 8388608
  · rw [if_pos h1]; exact ⟨_, _, rfl, by omega, by omega, by omega⟩
  · rw [if_neg h1, if_pos h']; exact ⟨_, _, rfl, by omega, by omega, by omega⟩

theorem double_finite (s : Bool) {m : Nat} {p : Int} (hm : m < 16777216) (h1 : -149 ≤ p) (h2 : p ≤ 104) : ∃ r, r < double.infRung ∧ double.nearest s m p = double.word s r := by
  have e1 : double.binade = 4503599627370496 := rfl
  have e2 : double.infRung = 9218868437227405312 := rfl
  have e3 : double.leastPlace = -1074 := rfl
  have e4 : double.fractionBits = 52 := rfl
  unfold Format.nearest
  by_cases hz : m = 0
  · rw [if_pos hz]; exact ⟨0, by rw [e2]; omega, rfl⟩
  · rw [if_neg hz]
    dsimp only
    refine ⟨_, ?_, rfl⟩
    have hl : m.log2 < 24 := (Nat.log2_lt hz).2 hm
    have hk := kept_le double s hz p (max (p + m.log2 - double.fractionBits) double.leastPlace) (by omega)
    rw [e4] at hk
    have hlast : max (p + (m.log2 : Int) - (double.fractionBits : Nat)) double.leastPlace ≤ 75 ∧ -1074 ≤ max (p + (m.log2 : Int) - (double.fractionBits : Nat)) double.leastPlace := by
      rw [e3, e4]; omega
    rw [e4] at hlast ⊢
    generalize max (p + (m.log2 : Int) - ((52 : Nat) : Int)) double.leastPlace = last at *
    generalize Toward.even.cut s (m <<< (p - last).toNat) (last - p).toNat = kept at *
    rw [e1, e2, e3]
    omega

theorem double_lt (d : Datum) : double.write d < 18446744073709551616 := by
  have h := double.write_lt d
  have e : 2 ^ double.width = 18446744073709551616 := by decide
  rw [e] at h
  exact h
theorem word_notInf (f : Format) {s : Bool} {r : Nat} (h : r < f.infRung) : (f.read (f.word s r)).isInfinity = false := by
  have hi := f.infRung_lt
  have hm := word_mod f s (rung := r) (by omega)
  unfold Format.read
  dsimp only
  rw [hm]
  by_cases h1 : r < f.binade
  · rw [if_pos h1]; rfl
  · rw [if_neg h1, if_pos h]; rfl

theorem f2f_number {P : Program} (w : World) {b : Nat} {s : Bool} {m : Nat} {e : Int} (hb : FloatKind.f32.decode b = .number s m e) (hinf : (FloatKind.f64.decode (FloatKind.f64.encode (.number s m e))).isInfinity = false) :
    (Conv.floatToFloat .f32 b .f64).run P w = .ok (.float .f64 (FloatKind.f64.encode (.number s m e))) w := by
  simp [Conv.floatToFloat, hb, hinf]
theorem f2f_inf {P : Program} (w : World) {b : Nat} {s : Bool} (hb : FloatKind.f32.decode b = .infinity s) :
    (Conv.floatToFloat .f32 b .f64).run P w = .ok (.float .f64 (FloatKind.f64.encode (.infinity s))) w := by
  simp [Conv.floatToFloat, hb]
theorem f2f_nan {P : Program} (w : World) {b : Nat} {s : Bool} {t : Nat} (hb : FloatKind.f32.decode b = .nan s t) :
    (Conv.floatToFloat .f32 b .f64).run P w = .ok (.float .f64 (Question.cut (.nanConv .f64 b) (w.tape w.drawn (.nanConv .f64 b)))) { w with drawn := w.drawn + 1 } := by
  simp [Conv.floatToFloat, hb, choose, Sem.run, Question.forced]
theorem cut6_isn (b t : Nat) : isn6 (Question.cut (.nanConv .f64 b) t) = true ∧ Question.cut (.nanConv .f64 b) t < 18446744073709551616 := by
  rw [cut6_eq]
  exact cut6_word t
theorem f2f_run {P : Program} (w : World) (b : Nat) : ∃ r n, (Conv.floatToFloat .f32 b .f64).run P w = .ok (.float .f64 r) (w.drewN n) ∧ FV6 r (widen b) := by
  have hdec : FloatKind.f32.decode b = single.read b := rfl
  cases hd : single.read b with
  | number s m e =>
    have hlt : frung single b < single.infRung := by
      rcases Nat.lt_or_ge (frung single b) single.infRung with h | h
      · exact h
      · exfalso
        have hn : (single.read b).isNaN = false := by rw [hd]; rfl
        rw [read_isNaN single single_bi] at hn
        have hq : frung single b = single.infRung := Nat.le_antisymm (by unfold frung; simpa using hn) h
        rw [read_inf single single_bi hq] at hd
        cases hd
    obtain ⟨m', p', e', h1, h2, h3⟩ := single_number hlt
    rw [hd] at e'
    cases e'
    obtain ⟨r, hr2, e2⟩ := double_finite (fsgn single b) h1 h2 h3
    have hinf : (FloatKind.f64.decode (FloatKind.f64.encode (.number (fsgn single b) m e))).isInfinity = false := by
      show (double.read (double.nearest (fsgn single b) m e)).isInfinity = false
      rw [e2]; exact word_notInf double hr2
    have hw : widen b = double.write (.number (fsgn single b) m e) := by
      unfold widen isn
      rw [hd]
      exact if_neg (fun h => by cases h)
    have hc : cn6 (double.write (.number (fsgn single b) m e)) = double.write (.number (fsgn single b) m e) := cn6_of_not (write_notNaN double double_bi _ rfl)
    refine ⟨double.write (.number (fsgn single b) m e), 0, f2f_number w (hdec.trans hd) hinf, ?_, double_lt _⟩
    rw [hw]
    exact hc
  | infinity s =>
    refine ⟨_, 0, f2f_inf w (hdec.trans hd), ?_, double_lt _⟩
    unfold widen isn
    rw [hd]
    exact cn6_of_not (write_notNaN double double_bi _ rfl)
  | nan s t =>
    obtain ⟨h4, h5⟩ := cut6_isn b (w.tape w.drawn (.nanConv .f64 b))
    refine ⟨_, 1, f2f_nan w (hdec.trans hd), ?_, h5⟩
    unfold widen isn
    rw [hd]
    exact cn6_of_isn h4
/-- A single word made wide. -/
theorem run_conv64 {P : Program} (w : World) (src dst : TypeId) (b : Nat) (hs : (P.underlying src).isSome = true) (hd : P.underlying dst = some (.float .f64)) :
    ∃ r n, (convert src dst (.float .f32 b)).run P w = .ok (.float .f64 r) (w.drewN n) ∧ FV6 r (widen (cn b)) := by
  obtain ⟨u, hs'⟩ := Option.isSome_iff_exists.1 hs
  have hrun : (convert src dst (.float .f32 b)).run P w = (Conv.floatToFloat .f32 b .f64).run P w := by
    cases u <;> simp [convert, run_underlying hs', run_underlying hd]
  rw [hrun, widen_cn]
  exact f2f_run w b

theorem wpList_conv64 {P : Program} {ops : Array Oper} {rest : List Oper} {a : Act} {w : World} {Q : Exit → Act → World → Prop} {o : Oper} (hg : o.guard = none)
    {src dst : TypeId} {x : Operand} (ho : o.op = .convert src dst x) (hs : (P.underlying src).isSome = true) (hd : P.underlying dst = some (.float .f64))
    {b : Nat} (hx : a.eval x = .float .f32 b)
    (h : ∀ r n, FV6 r (widen (cn b)) → wpList P ops Q rest (a.put o.dst (.float .f64 r)) (w.drewN n)) : wpList P ops Q (o :: rest) a w := by
  refine wpList_plain hg fun K hK => ?_
  obtain ⟨r, n, hr, hv⟩ := run_conv64 (P := P) w src dst b hs hd
  have hh := hK _ _ (h r n hv)
  unfold Oper.wp execOp
  simp only [ho, hx, Sem.run_bind, hr, Result.andThen_ok, Sem.run_pure, Oper.upon]
  exact hh
theorem relOp_conv64 {P : Program} {C : World → Prop} {D : Option Tmp → Value → Prop} {o : Oper} {a : Act} {K : Act → Prop} (hC : ∀ w n, C w → C (w.drewN n))
    {src dst : TypeId} {x : Operand} (ho : o.op = .convert src dst x) (hs : (P.underlying src).isSome = true) (hd : P.underlying dst = some (.float .f64))
    {b : Nat} (hx : a.eval x = .float .f32 b)
    (h : ∀ r, FV6 r (widen (cn b)) → K (a.put o.dst (.float .f64 r))) : relOp P C D o a K := by
  intro w hw
  obtain ⟨r, n, hr, hv⟩ := run_conv64 (P := P) w src dst b hs hd
  unfold execOp
  simp only [ho, hx, Sem.run_bind, hr, Result.andThen_ok, Sem.run_pure]
  exact ⟨hC w n hw, h r hv⟩

/-! ### comparisons of doubles -/
def flt6 (x y : Nat) : Bool := double.order x y == some .lt
def feq6 (x y : Nat) : Bool := double.order x y == some .eq
@[go_sem high] theorem bin6_eql (t : TypeId) (a b : Nat) : binOp .eql t (.float .f64 a) (.float .f64 b) = pure (.bool (feq6 a b)) := binOp_float_cmp_eql t .f64 a b
@[go_sem high] theorem bin6_neq (t : TypeId) (a b : Nat) : binOp .neq t (.float .f64 a) (.float .f64 b) = pure (.bool (!feq6 a b)) := binOp_float_cmp_neq t .f64 a b
@[go_sem high] theorem bin6_gtr (t : TypeId) (a b : Nat) : binOp .gtr t (.float .f64 a) (.float .f64 b) = pure (.bool (flt6 b a)) := by
  rw [binOp_float_cmp_gtr]
  have h : (FloatKind.f64.format.order a b == some .gt) = flt6 b a := by
    show (double.order a b == some .gt) = (double.order b a == some .lt)
    rw [show double.order b a = (double.order a b).map Ordering.swap from order_swap _ _]
    cases double.order a b with
    | none => rfl
    | some o => cases o <;> rfl
  rw [h]
theorem feq6_self (a : Nat) : feq6 a a = !isn6 a := by
  unfold feq6 isn6 Format.order
  cases h : (double.read a).isNaN
  · rw [order_self h]; rfl
  · rw [order_nan_left h]; rfl
theorem feq_self (a : Nat) : feq a a = !isn a := by
  unfold feq isn Format.order
  cases h : (single.read a).isNaN
  · rw [order_self h]; rfl
  · rw [order_nan_left h]; rfl

/-- A double word that equals 0 is one of the two zeros. -/
theorem zero6 {a : Nat} (ha : a < 18446744073709551616) (h : feq6 a 0 = true) : a = 0 ∨ a = 9223372036854775808 := by
  cases hn : isn6 a
  · have h0 : (double.read 0).isNaN = false := by decide
    unfold feq6 at h
    rw [order_skey double double_bi hn h0] at h
    have hk : skey double a = skey double 0 := by
      have : compare (skey double a) (skey double 0) = .eq := by simpa using h
      exact Int.compare_eq_eq.1 this
    have h1 : skey double 0 = 0 := by decide
    rw [h1] at hk
    unfold skey sgnd frung at hk
    have e : double.signWeight = 9223372036854775808 := rfl
    rw [e] at hk
    split at hk <;> omega
  · unfold feq6 at h
    have : double.order a 0 = none := order_nan_left hn
    rw [this] at h; cases h
end Go.Proofs.Ytggcajillncamaa
