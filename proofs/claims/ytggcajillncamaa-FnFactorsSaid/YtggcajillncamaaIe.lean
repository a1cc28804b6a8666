/- Plain facts about the words of a binary floating-point format: which words are NaNs, that a rounded number is none, and that a number that is read and written again gives its word. Conditions: the format has at least one finite binade. Single floats up to the bits of a NaN: the canonical word, the four operations on canonical words, and what the machine's operations give. The machine asks the tape for the bits of a NaN: nothing here depends on them. A region whose order the tape picks, walked once in the order of the text, where an operation may give any of several values (a NaN's bits; what a callee hands back under a description) and may leave any world of a class. Behind the first n operations a forced tail may follow. Conditions: the closed tests on the region's edges. How the walk takes single floats: comparisons as plain Bools, the four operations, conversions, in a plain region and in one that draws. The order of floats is the order of whole numbers: of signed rungs. Conditions: the words are no NaNs. Small laws for the walks: what stays behind a call that makes memory of its own, lists in memory, closing steps. -/
import Derived.Laws.FloatBits
import Derived.WalkKit
import Derived.WalkLawsBesides
import Derived.Deep.Draws
import Derived.Deep.Quiet
import Derived.StillTail
import Derived.Tactics2
import Derived.KernelRfl
import Derived.Handy
import Derived.Deep.DeepMust
import Derived.Laws.OwnMore
import Derived.Lib.Hide
namespace Go.Proofs.Ytggcajillncamaa
open Ieee

theorem log2_mul_pow {m : Nat} (hm : m ≠ 0) (j : Nat) : (m * 2 ^ j).log2 = m.log2 + j := by
  induction j with
  | zero => simp
  | succ j ih =>
    have h2 : 0 < 2 ^ j := Nat.two_pow_pos _
    rw [show m * 2 ^ (j + 1) = 2 * (m * 2 ^ j) from by rw [Nat.pow_succ]; simp [Nat.mul_comm, Nat.mul_left_comm], Nat.log2_two_mul (Nat.mul_ne_zero hm (by omega)), ih]
    omega

theorem binade_pos (f : Format) : 0 < f.binade := Nat.two_pow_pos _

theorem read_isNaN (f : Format) (hb : f.binade ≤ f.infRung) (x : Nat) : (f.read x).isNaN = decide (f.infRung < x % f.signWeight) := by
  unfold Format.read
  dsimp only
  split
  · simp [Datum.isNaN]; omega
  · split
    · simp [Datum.isNaN]; omega
    · split
      · simp [Datum.isNaN]; omega
      · simp [Datum.isNaN]; omega

theorem word_mod (f : Format) (neg : Bool) {rung : Nat} (h : rung < f.signWeight) : f.word neg rung % f.signWeight = rung := by
  unfold Format.word
  split
  · rw [Nat.add_mod_left]; exact Nat.mod_eq_of_lt h
  · exact Nat.mod_eq_of_lt h

theorem word_notNaN (f : Format) (hb : f.binade ≤ f.infRung) (neg : Bool) {rung : Nat} (h : rung ≤ f.infRung) : (f.read (f.word neg rung)).isNaN = false := by
  have := f.infRung_lt
  rw [read_isNaN f hb, word_mod f neg (by omega)]
  simp; omega

theorem nearest_rung (f : Format) (neg : Bool) (mag : Nat) (place : Int) : ∃ r, r ≤ f.infRung ∧ f.nearest neg mag place = f.word neg r := by
  unfold Format.nearest
  dsimp only
  split
  · exact ⟨0, Nat.zero_le _, rfl⟩
  · exact ⟨_, Nat.min_le_right _ _, rfl⟩

theorem write_notNaN (f : Format) (hb : f.binade ≤ f.infRung) (d : Datum) (hd : d.isNaN = false) : (f.read (f.write d)).isNaN = false := by
  cases d with
  | number s m p =>
    obtain ⟨r, hr, e⟩ := nearest_rung f s m p
    show (f.read (f.nearest s m p)).isNaN = false
    rw [e]; exact word_notNaN f hb s hr
  | infinity s => exact word_notNaN f hb s (Nat.le_refl _)
  | nan s t => simp [Datum.isNaN] at hd

theorem sum_notNaN {x y d : Datum} (h : x.sum y = some d) : d.isNaN = false := by
  cases x <;> cases y <;> simp only [Datum.sum] at h
  all_goals first
    | (cases h; rfl)
    | cases h
    | (split at h <;> first | (cases h; rfl) | cases h)

theorem product_notNaN {x y d : Datum} (h : x.product y = some d) : d.isNaN = false := by
  cases x <;> cases y <;> simp only [Datum.product] at h
  all_goals first
    | (cases h; rfl)
    | cases h
    | (split at h <;> first | (cases h; rfl) | cases h)

theorem quotient_notNaN {n : Nat} {x y d : Datum} (h : x.quotient n y = some d) : d.isNaN = false := by
  cases x <;> cases y <;> simp only [Datum.quotient] at h
  all_goals first
    | (cases h; rfl)
    | cases h
    | (split at h
       · split at h <;> first | (cases h; rfl) | cases h
       · cases h; rfl)

theorem sum_nan_left {x y : Datum} (h : x.isNaN = true) : x.sum y = none := by
  cases x <;> simp [Datum.isNaN] at h
  cases y <;> rfl
theorem sum_nan_right {x y : Datum} (h : y.isNaN = true) : x.sum y = none := by
  cases y <;> simp [Datum.isNaN] at h
  cases x <;> rfl
theorem product_nan_left {x y : Datum} (h : x.isNaN = true) : x.product y = none := by
  cases x <;> simp [Datum.isNaN] at h
  cases y <;> rfl
theorem product_nan_right {x y : Datum} (h : y.isNaN = true) : x.product y = none := by
  cases y <;> simp [Datum.isNaN] at h
  cases x <;> rfl
theorem quotient_nan_left {n : Nat} {x y : Datum} (h : x.isNaN = true) : x.quotient n y = none := by
  cases x <;> simp [Datum.isNaN] at h
  cases y <;> rfl
theorem quotient_nan_right {n : Nat} {x y : Datum} (h : y.isNaN = true) : x.quotient n y = none := by
  cases y <;> simp [Datum.isNaN] at h
  cases x <;> rfl
theorem opposite_isNaN (x : Datum) : x.opposite.isNaN = x.isNaN := by cases x <;> rfl
theorem order_nan_left {x y : Datum} (h : x.isNaN = true) : x.order y = none := by
  cases x <;> simp [Datum.isNaN] at h
  cases y <;> rfl
theorem order_nan_right {x y : Datum} (h : y.isNaN = true) : x.order y = none := by
  cases y <;> simp [Datum.isNaN] at h
  cases x <;> rfl
theorem order_self {x : Datum} (h : x.isNaN = false) : x.order x = some .eq := by
  cases x with
  | number s m i => simp [Datum.order]
  | infinity s => simp [Datum.order]
  | nan s t => simp [Datum.isNaN] at h
theorem order_swap (x y : Datum) : y.order x = (x.order y).map Ordering.swap := by
  cases x <;> cases y <;> simp only [Datum.order, Option.map_some, Option.map_none]
  · rename_i s m i t n j
    rw [show min j i = min i j from by omega]
    generalize signed s m (i - min i j).toNat = p
    generalize signed t n (j - min i j).toNat = q
    rw [Int.compare_swap]
  · rename_i s m i t
    cases t <;> rfl
  · rename_i s t n j
    cases s <;> rfl
  · rename_i s t
    cases s <;> cases t <;> rfl

/-- A number that the format has, its magnitude written with j zeros more behind, is written as its own word. -/
theorem nearest_exact (f : Format) (neg : Bool) {m : Nat} (hm : m ≠ 0) (p : Int) (j : Nat)
    (hp : f.leastPlace ≤ p) (hs : (m.log2 : Int) ≤ f.fractionBits) (hn : p = f.leastPlace ∨ m.log2 = f.fractionBits) :
    f.nearest neg (m <<< j) (p - j) = f.word neg (min ((p - f.leastPlace).toNat * f.binade + m) f.infRung) := by
  have h2 : 0 < 2 ^ j := Nat.two_pow_pos _
  have hmj : m <<< j = m * 2 ^ j := Nat.shiftLeft_eq _ _
  have hz : m <<< j ≠ 0 := by
    rw [hmj]; exact Nat.mul_ne_zero hm (by omega)
  have hl : (m <<< j).log2 = m.log2 + j := by
    rw [hmj]
    exact log2_mul_pow hm j
  unfold Format.nearest
  rw [if_neg hz, hl]
  have hlast : max (p - j + ((m.log2 + j : Nat) : Int) - f.fractionBits) f.leastPlace = p := by
    rcases hn with h | h <;> omega
  dsimp only
  rw [hlast]
  have e1 : (p - ↑j - p).toNat = 0 := by omega
  have e2 : (p - (p - ↑j)).toNat = j := by omega
  rw [e1, e2, Nat.shiftLeft_zero]
  have hcut : Toward.even.cut neg (m <<< j) j = m := by
    unfold Toward.cut
    rw [hl, show min j (m.log2 + j + 2) = j from by omega, hmj, Nat.one_shiftLeft]
    simp [Nat.mul_div_cancel _ h2]
  rw [hcut]
end Go.Proofs.Ytggcajillncamaa
namespace Go.Proofs.Ytggcajillncamaa
open Ieee

/-- The word that stands for every NaN. -/
def nanW : Nat := 2143289344
def isn (b : Nat) : Bool := (single.read b).isNaN
def cn (b : Nat) : Nat := if isn b = true then nanW else b
def fadd (x y : Nat) : Nat := (single.add x y).getD nanW
def fsub (x y : Nat) : Nat := (single.sub x y).getD nanW
def fmul (x y : Nat) : Nat := (single.mul x y).getD nanW
def fdiv (x y : Nat) : Nat := (single.div x y).getD nanW
def fop : BinOp → Nat → Nat → Nat
  | .add => fadd | .sub => fsub | .mul => fmul | .quo => fdiv | _ => fun _ _ => nanW
def fneg (x : Nat) : Nat := cn (x ^^^ 2147483648)
def flt (x y : Nat) : Bool := single.order x y == some .lt
def feq (x y : Nat) : Bool := single.order x y == some .eq
def fle (x y : Nat) : Bool := single.order x y == some .lt || single.order x y == some .eq

theorem single_bi : single.binade ≤ single.infRung := by decide
theorem isn_eq (b : Nat) : isn b = decide (2139095040 < b % 2147483648) := read_isNaN single single_bi b
theorem isn_nanW : isn nanW = true := by decide
theorem cn_cn (b : Nat) : cn (cn b) = cn b := by
  unfold cn
  split
  · simp [isn_nanW]
  · rename_i h; simp [h]
theorem isn_cn (b : Nat) : isn (cn b) = isn b := by
  unfold cn
  split
  · rename_i h; rw [h]; exact isn_nanW
  · rfl
theorem cn_of_not {b : Nat} (h : isn b = false) : cn b = b := by unfold cn; simp [h]
theorem cn_of_isn {b : Nat} (h : isn b = true) : cn b = nanW := by unfold cn; simp [h]

theorem op_none {f : Nat → Nat → Option Nat} (x y : Nat) (hl : isn x = true → f x y = none) : isn x = true → (f x y).getD nanW = nanW := fun h => by rw [hl h]; rfl
theorem add_nl {x : Nat} (y : Nat) (h : isn x = true) : single.add x y = none := by unfold Format.add; rw [sum_nan_left h]; rfl
theorem add_nr (x : Nat) {y : Nat} (h : isn y = true) : single.add x y = none := by unfold Format.add; rw [sum_nan_right h]; rfl
theorem sub_nl {x : Nat} (y : Nat) (h : isn x = true) : single.sub x y = none := by unfold Format.sub; rw [sum_nan_left h]; rfl
theorem sub_nr (x : Nat) {y : Nat} (h : isn y = true) : single.sub x y = none := by unfold Format.sub; rw [sum_nan_right (by rw [opposite_isNaN]; exact h)]; rfl
theorem mul_nl {x : Nat} (y : Nat) (h : isn x = true) : single.mul x y = none := by unfold Format.mul; rw [product_nan_left h]; rfl
theorem mul_nr (x : Nat) {y : Nat} (h : isn y = true) : single.mul x y = none := by unfold Format.mul; rw [product_nan_right h]; rfl
theorem div_nl {x : Nat} (y : Nat) (h : isn x = true) : single.div x y = none := by unfold Format.div; rw [quotient_nan_left h]; rfl
theorem div_nr (x : Nat) {y : Nat} (h : isn y = true) : single.div x y = none := by unfold Format.div; rw [quotient_nan_right h]; rfl
theorem order_nl {x : Nat} (y : Nat) (h : isn x = true) : single.order x y = none := order_nan_left h
theorem order_nr (x : Nat) {y : Nat} (h : isn y = true) : single.order x y = none := order_nan_right h

theorem bin_cn {α : Type} {f : Nat → Nat → Option α} (hl : ∀ x y, isn x = true → f x y = none) (hr : ∀ x y, isn y = true → f x y = none) (x y : Nat) : f (cn x) (cn y) = f x y := by
  cases hx : isn x
  · cases hy : isn y
    · rw [cn_of_not hx, cn_of_not hy]
    · rw [hr _ _ (by rw [isn_cn]; exact hy), hr _ _ hy]
  · rw [hl _ _ (by rw [isn_cn]; exact hx), hl _ _ hx]
theorem add_cn (x y : Nat) : single.add (cn x) (cn y) = single.add x y := bin_cn (f := single.add) (fun _ y h => add_nl y h) (fun x _ h => add_nr x h) x y
theorem sub_cn (x y : Nat) : single.sub (cn x) (cn y) = single.sub x y := bin_cn (f := single.sub) (fun _ y h => sub_nl y h) (fun x _ h => sub_nr x h) x y
theorem mul_cn (x y : Nat) : single.mul (cn x) (cn y) = single.mul x y := bin_cn (f := single.mul) (fun _ y h => mul_nl y h) (fun x _ h => mul_nr x h) x y
theorem div_cn (x y : Nat) : single.div (cn x) (cn y) = single.div x y := bin_cn (f := single.div) (fun _ y h => div_nl y h) (fun x _ h => div_nr x h) x y
theorem order_cn (x y : Nat) : single.order (cn x) (cn y) = single.order x y := bin_cn (f := single.order) (fun _ y h => order_nl y h) (fun x _ h => order_nr x h) x y
theorem flt_cn (x y : Nat) : flt (cn x) (cn y) = flt x y := by unfold flt; rw [order_cn]
theorem feq_cn (x y : Nat) : feq (cn x) (cn y) = feq x y := by unfold feq; rw [order_cn]
theorem fle_cn (x y : Nat) : fle (cn x) (cn y) = fle x y := by unfold fle; rw [order_cn]

theorem map_write_isn {d : Option Datum} {r : Nat} (h : d.map single.write = some r) (hd : ∀ e, d = some e → e.isNaN = false) : isn r = false := by
  cases d with
  | none => cases h
  | some d => cases h; exact write_notNaN single single_bi d (hd d rfl)
theorem add_isn {x y r : Nat} (h : single.add x y = some r) : isn r = false := map_write_isn h fun _ => sum_notNaN
theorem sub_isn {x y r : Nat} (h : single.sub x y = some r) : isn r = false := map_write_isn h fun _ => sum_notNaN
theorem mul_isn {x y r : Nat} (h : single.mul x y = some r) : isn r = false := map_write_isn h fun _ => product_notNaN
theorem div_isn {x y r : Nat} (h : single.div x y = some r) : isn r = false := map_write_isn h fun _ => quotient_notNaN

theorem cn_getD {o : Option Nat} (h : ∀ r, o = some r → isn r = false) : cn (o.getD nanW) = o.getD nanW := by
  cases o with
  | none => simp [cn_of_isn isn_nanW]
  | some r => exact cn_of_not (h r rfl)
theorem cn_fadd (x y : Nat) : cn (fadd x y) = fadd x y := cn_getD fun _ => add_isn
theorem cn_fsub (x y : Nat) : cn (fsub x y) = fsub x y := cn_getD fun _ => sub_isn
theorem cn_fmul (x y : Nat) : cn (fmul x y) = fmul x y := cn_getD fun _ => mul_isn
theorem cn_fdiv (x y : Nat) : cn (fdiv x y) = fdiv x y := cn_getD fun _ => div_isn

theorem floatBits_fop {op : BinOp} (hop : op = .add ∨ op = .sub ∨ op = .mul ∨ op = .quo) (x y : Nat) : (floatBits op .f32 x y).getD nanW = fop op (cn x) (cn y) ∧ (∀ r, floatBits op .f32 x y = some r → isn r = false) := by
  rcases hop with rfl | rfl | rfl | rfl
  · exact ⟨by show _ = fadd _ _; unfold fadd; rw [add_cn]; rfl, fun _ => add_isn⟩
  · exact ⟨by show _ = fsub _ _; unfold fsub; rw [sub_cn]; rfl, fun _ => sub_isn⟩
  · exact ⟨by show _ = fmul _ _; unfold fmul; rw [mul_cn]; rfl, fun _ => mul_isn⟩
  · exact ⟨by show _ = fdiv _ _; unfold fdiv; rw [div_cn]; rfl, fun _ => div_isn⟩

/-- A word that is a value's: its canonical word is v, and it fits. -/
def FV (r v : Nat) : Prop := cn r = v ∧ r < 4294967296
theorem FV.cn {r v : Nat} (h : FV r v) : cn r = v := h.1
theorem FV.lt {r v : Nat} (h : FV r v) : r < 4294967296 := h.2

theorem cut_word (t : Nat) : isn ((t % 2) * 2147483648 + 2139095041 + (t / 2) % 8388607) = true ∧ (t % 2) * 2147483648 + 2139095041 + (t / 2) % 8388607 < 4294967296 := by
  have h2 : t % 2 < 2 := Nat.mod_lt _ (by omega)
  have h3 : (t / 2) % 8388607 < 8388607 := Nat.mod_lt _ (by omega)
  generalize t % 2 = a at *
  generalize (t / 2) % 8388607 = c at *
  rw [isn_eq, decide_eq_true_iff]
  refine ⟨?_, by omega⟩
  have e : (a * 2147483648 + 2139095041 + c) % 2147483648 = 2139095041 + c := by
    rw [Nat.add_assoc, Nat.add_comm, Nat.add_mul_mod_self_right]
    exact Nat.mod_eq_of_lt (by omega)
  omega
theorem cut_eq (x y t : Nat) : Question.cut (.nanBits .f32 x y) t = (t % 2) * 2147483648 + 2139095041 + (t / 2) % 8388607 := by
  simp [Question.cut]
theorem cut_isn (x y t : Nat) : isn (Question.cut (.nanBits .f32 x y) t) = true ∧ Question.cut (.nanBits .f32 x y) t < 4294967296 := by
  rw [cut_eq]
  exact cut_word t

/-- One of the four operations: whatever the tape says, a word of the right value, and nothing but draws. -/
theorem run_fop {P : Program} (w : World) {op : BinOp} (hop : op = .add ∨ op = .sub ∨ op = .mul ∨ op = .quo) (t : TypeId) (x y : Nat) :
    ∃ r n, (binOp op t (.float .f32 x) (.float .f32 y)).run P w = .ok (.float .f32 r) (w.drewN n) ∧ FV r (fop op (cn x) (cn y)) := by
  obtain ⟨h1, h2⟩ := floatBits_fop hop x y
  cases hb : floatBits op .f32 x y with
  | some r =>
    rw [hb] at h1
    exact ⟨r, 0, run_float_arith w op t .f32 x y r hb, (cn_of_not (h2 r hb)).trans h1, (by have := floatBits_wf hb; simpa [Lit.wf] using this)⟩
  | none =>
    rw [hb] at h1
    have h3 : fop op (cn x) (cn y) = nanW := h1.symm
    obtain ⟨h4, h5⟩ := cut_isn x y (w.tape w.drawn (.nanBits .f32 x y))
    refine ⟨Question.cut (.nanBits .f32 x y) (w.tape w.drawn (.nanBits .f32 x y)), 1, ?_, ?_, h5⟩
    · have hn : ∀ (hh : floatBits op .f32 x y = none), (binOp op t (.float .f32 x) (.float .f32 y)).run P w = .ok (.float .f32 (Question.cut (.nanBits .f32 x y) (w.tape w.drawn (.nanBits .f32 x y)))) { w with drawn := w.drawn + 1 } := by
        intro hh
        unfold floatBits at hh
        rcases hop with rfl | rfl | rfl | rfl <;> simp only at hh <;> simp [binOp, Op.floatArith, hh, choose, Sem.run, Question.forced]
      exact hn hb
    · rw [cn_of_isn h4, h3]

theorem wpList_fop {P : Program} {ops : Array Oper} {rest : List Oper} {a : Act} {w : World} {Q : Exit → Act → World → Prop} {o : Oper} (hg : o.guard = none)
    {op : BinOp} {t yt : TypeId} {x y : Operand} (ho : o.op = .binOp op t x y yt) (hop : op = .add ∨ op = .sub ∨ op = .mul ∨ op = .quo)
    {p q : Nat} (hx : a.eval x = .float .f32 p) (hy : a.eval y = .float .f32 q)
    (h : ∀ r n, FV r (fop op (cn p) (cn q)) → wpList P ops Q rest (a.put o.dst (.float .f32 r)) (w.drewN n)) : wpList P ops Q (o :: rest) a w := by
  refine wpList_plain hg fun K hK => ?_
  obtain ⟨r, n, hr, hv⟩ := run_fop (P := P) w hop t p q
  have hh := hK _ _ (h r n hv)
  have he : (eqGuard op t x y (.float .f32 p) (.float .f32 q)).run P w = .ok () w := by
    rcases hop with rfl | rfl | rfl | rfl <;> rfl
  unfold Oper.wp execOp
  simp only [ho, hx, hy, Sem.run_bind, he, hr, Result.andThen_ok, Sem.run_pure, Oper.upon]
  exact hh
end Go.Proofs.Ytggcajillncamaa
namespace Go.Proofs.Ytggcajillncamaa

section
variable {P : Program} {ops : Array Oper} {md : Region.Mode} {C : World → Prop} {D : Option Tmp → Value → Prop}

/-- What is asked of what an operation has come to: a value in a world of the class; or a call, which hands back a value as described. -/
def relUpon (P : Program) (C : World → Prop) (D : Option Tmp → Value → Prop) (dst : Option Tmp) (K : Value → Prop) : Result Next → Prop
  | .ok (.value u) w' => C w' ∧ K u
  | .ok .skip w' => C w' ∧ K undef
  | .ok (.enter f args) w' => Calls P f args w' (fun e w'' => ∃ v, e = .returned v ∧ D dst v ∧ C w'') ∧ ∀ v, D dst v → K v
  | _ => False

def relOp (P : Program) (C : World → Prop) (D : Option Tmp → Value → Prop) (o : Oper) (a : Act) (K : Act → Prop) : Prop :=
  ∀ w, C w → relUpon P C D o.dst (fun u => K (a.put o.dst u)) ((execOp a.eval o).run P w)

/-- The walk in the order of the text. -/
def wpRel (P : Program) (ops : Array Oper) (C : World → Prop) (D : Option Tmp → Value → Prop) (Q : Act → Prop) : List Oper → Act → Prop
  | [], a => Q a
  | o :: rest, a => if Region.wanted o (yielded ops a.tmps) then relOp P C D o a (wpRel P ops C D Q rest) else wpRel P ops C D Q rest (a.put o.dst undef)

theorem wpRel_nil {Q : Act → Prop} {a : Act} (h : Q a) : wpRel P ops C D Q [] a := h
theorem relUpon_mono {dst : Option Tmp} {K K' : Value → Prop} (h : ∀ u, K u → K' u) {r : Result Next} (hr : relUpon P C D dst K r) : relUpon P C D dst K' r := by
  cases r with
  | ok n w' =>
    cases n <;> simp only [relUpon] at hr ⊢
    · exact ⟨hr.1, h _ hr.2⟩
    · exact ⟨hr.1, h _ hr.2⟩
    · exact ⟨hr.1, fun v hv => h _ (hr.2 v hv)⟩
  | halt x w' => simp only [relUpon] at hr
theorem wpRel_step {Q : Act → Prop} {a : Act} {o : Oper} {rest : List Oper}
    (h : ∀ K : Act → Prop, (∀ a, wpRel P ops C D Q rest a → K a) → if Region.wanted o (yielded ops a.tmps) then relOp P C D o a K else K (a.put o.dst undef)) : wpRel P ops C D Q (o :: rest) a :=
  h _ (fun _ h => h)
theorem wpRel_plain {Q : Act → Prop} {a : Act} {o : Oper} {rest : List Oper} (hg : o.guard = none)
    (h : ∀ K : Act → Prop, (∀ a, wpRel P ops C D Q rest a → K a) → relOp P C D o a K) : wpRel P ops C D Q (o :: rest) a :=
  wpRel_step fun K hK => by simp only [Region.wanted, hg, if_true]; exact h K hK

def rOp (P : Program) (ops : Array Oper) (C : World → Prop) (D : Option Tmp → Value → Prop) (i : Nat) (K : Act → Prop) (a : Act) : Prop :=
  match ops[i]? with
  | none => K a
  | some o => if Region.wanted o (yielded ops a.tmps) then relOp P C D o a K else K (a.put o.dst undef)

/-- The operation goes through, whatever comes of it. -/
def Safe (P : Program) (ops : Array Oper) (C : World → Prop) (D : Option Tmp → Value → Prop) (o : Oper) (a : Act) : Prop :=
  Region.wanted o (yielded ops a.tmps) = true → ∀ w, C w → relUpon P C D o.dst (fun _ => True) ((execOp a.eval o).run P w)

/-- What may come of it. -/
def Gives (D : Option Tmp → Value → Prop) (dst : Option Tmp) (u : Value) : Result Next → Prop
  | .ok (.value v) _ => u = v
  | .ok .skip _ => u = undef
  | .ok (.enter _ _) _ => D dst u
  | _ => False
def MayGive (P : Program) (ops : Array Oper) (C : World → Prop) (D : Option Tmp → Value → Prop) (o : Oper) (a : Act) (u : Value) : Prop :=
  (Region.wanted o (yielded ops a.tmps) = true ∧ ∃ w, C w ∧ Gives D o.dst u ((execOp a.eval o).run P w)) ∨ (Region.wanted o (yielded ops a.tmps) = false ∧ u = undef)

theorem rOp_iff {i : Nat} {o : Oper} {a : Act} {K : Act → Prop} (hi : ops[i]? = some o) :
    rOp P ops C D i K a ↔ Safe P ops C D o a ∧ ∀ u, MayGive P ops C D o a u → K (a.put o.dst u) := by
  unfold rOp Safe MayGive
  simp only [hi]
  by_cases hw : Region.wanted o (yielded ops a.tmps) = true
  · simp only [hw, if_true, true_and, reduceCtorEq, false_and, or_false, forall_const]
    constructor
    · intro h
      refine ⟨fun w hC => relUpon_mono (fun _ _ => trivial) (h w hC), fun u ⟨w, hC, hg⟩ => ?_⟩
      have h1 := h w hC
      generalize (execOp a.eval o).run P w = r at h1 hg
      cases r with
      | ok n w' =>
        cases n <;> simp only [Gives, relUpon] at h1 hg
        · subst hg; exact h1.2
        · subst hg; exact h1.2
        · exact h1.2 _ hg
      | halt x w' => simp only [Gives] at hg
    · intro ⟨h1, h2⟩ w hC
      have h3 := h1 w hC
      have h4 : ∀ u, Gives D o.dst u ((execOp a.eval o).run P w) → K (a.put o.dst u) := fun u hu => h2 u ⟨w, hC, hu⟩
      generalize (execOp a.eval o).run P w = r at h3 h4
      cases r with
      | ok n w' =>
        cases n <;> simp only [Gives, relUpon] at h3 h4 ⊢
        · exact ⟨h3.1, h4 _ rfl⟩
        · exact ⟨h3.1, h4 _ rfl⟩
        · exact ⟨h3.1, h4⟩
        all_goals exact h3.elim
      | halt x w' => simp only [relUpon] at h3
  · simp only [Bool.not_eq_true] at hw
    simp [hw]

theorem reach_exists {o : Oper} {a : Act} {w0 : World} (hC : C w0) (h : Safe P ops C D o a) : ∃ u, MayGive P ops C D o a u := by
  by_cases hw : Region.wanted o (yielded ops a.tmps) = true
  · have h1 := h hw w0 hC
    cases hr : (execOp a.eval o).run P w0 with
    | ok n w' =>
      rw [hr] at h1
      cases n <;> simp only [relUpon] at h1
      · exact ⟨_, .inl ⟨hw, w0, hC, by rw [hr]; rfl⟩⟩
      · exact ⟨_, .inl ⟨hw, w0, hC, by rw [hr]; rfl⟩⟩
      · obtain ⟨hc, _⟩ := h1
        obtain ⟨e, w'', fr, ⟨v, _, hD, _⟩, _⟩ := hc []
        exact ⟨v, .inl ⟨hw, w0, hC, by rw [hr]; exact hD⟩⟩
    | halt x w' => rw [hr] at h1; simp only [relUpon] at h1
  · exact ⟨undef, .inr ⟨by simpa using hw, rfl⟩⟩

theorem Safe.put {oi oj : Oper} {a : Act} {u : Value} (hsi : ∀ cs b, oi.op ≠ .select cs b) (h3 : ∀ d, oj.dst = some d → d ∉ oi.looksAt ops) :
    Safe P ops C D oi (a.put oj.dst u) ↔ Safe P ops C D oi a := by
  unfold Safe
  rw [execOp_put oi hsi a oj.dst u h3, wanted_put oi a oj.dst u h3]
theorem MayGive.put {oi oj : Oper} {a : Act} {u v : Value} (hsi : ∀ cs b, oi.op ≠ .select cs b) (h3 : ∀ d, oj.dst = some d → d ∉ oi.looksAt ops) :
    MayGive P ops C D oi (a.put oj.dst u) v ↔ MayGive P ops C D oi a v := by
  unfold MayGive
  rw [execOp_put oi hsi a oj.dst u h3, wanted_put oi a oj.dst u h3]

theorem rOp_mono {i : Nat} {a : Act} {K K' : Act → Prop} (h : ∀ a, K a → K' a) (hh : rOp P ops C D i K a) : rOp P ops C D i K' a := by
  cases hi : ops[i]? with
  | none => unfold rOp at *; simp only [hi] at *; exact h _ hh
  | some o => rw [rOp_iff hi] at *; exact ⟨hh.1, fun u hu => h _ (hh.2 u hu)⟩

theorem wpOp_of_rOp {i : Nat} {a : Act} {K : Act → Prop} {K' : Act → World → Prop} {Q' : Exit → Act → World → Prop} {w : World} (hC : C w) (h : ∀ a w', C w' → K a → K' a w') (hh : rOp P ops C D i K a) : wpOp P ops Q' i K' a w := by
  unfold rOp at hh
  unfold wpOp
  split
  · rename_i ho; simp only [ho] at hh; exact h _ _ hC hh
  · rename_i o ho
    simp only [ho] at hh
    split
    · rename_i hw
      simp only [hw, if_true] at hh
      refine .inl ?_
      have h1 := hh w hC
      unfold Oper.wp
      generalize (execOp a.eval o).run P w = r at h1 ⊢
      cases r with
      | ok n w' =>
        cases n <;> simp only [relUpon] at h1 <;> simp only [Oper.upon]
        · exact h _ _ h1.1 h1.2
        · exact h _ _ h1.1 h1.2
        · exact h1.1.mono fun e w'' ⟨v, he, hD, hw''⟩ => by subst he; exact h _ _ hw'' (h1.2 v hD)
      | halt x w' => simp only [relUpon] at h1
    · rename_i hw; simp only [hw] at hh; exact h _ _ hC hh

/-- Whatever order is picked from here on. -/
def wpAnyR (P : Program) (md : Region.Mode) (ops : Array Oper) (C : World → Prop) (D : Option Tmp → Value → Prop) (Q : Act → Prop) : Nat → Array Bool → Act → Prop
  | 0, listed, a => Region.ready md ops listed = [] ∧ Q a
  | fuel + 1, listed, a =>
    (Region.ready md ops listed = [] → Q a) ∧
    ∀ i ∈ Region.ready md ops listed, rOp P ops C D i (wpAnyR P md ops C D Q fuel (listed.setIfInBounds i true)) a

theorem wpAny_of_rel {Q : Act → Prop} {Q' : Exit → Act → World → Prop} (hQ : ∀ a w, C w → Q a → Q' .normal a w) : ∀ (fuel : Nat) (listed : Array Bool) (a : Act) (w : World), C w →
    wpAnyR P md ops C D Q fuel listed a → wpAny P md ops Q' fuel listed a w
  | 0, _, _, _, hw, h => ⟨h.1, hQ _ _ hw h.2⟩
  | fuel + 1, _, _, _, hw, h => ⟨fun h0 => hQ _ _ hw (h.1 h0), fun i hi => wpOp_of_rOp hw (fun a' w' hw' => wpAny_of_rel hQ fuel _ a' w' hw') (h.2 i hi)⟩

theorem wpAnyR_first {Q : Act → Prop} {w0 : World} (hC : C w0) {i : Nat} {oi : Oper} (hi : ops[i]? = some oi) (hsel : ∀ (j : Nat) (o : Oper) cs b, ops[j]? = some o → o.op ≠ .select cs b) :
    ∀ (fuel : Nat) (listed : Array Bool) (a : Act),
      (∀ j oj, ops[j]? = some oj → j ≠ i → listed.getD j true = false → (∀ e ∈ oj.after, Region.binds md e = true → e.on ≠ i) → oi.apart ops oj = true) →
      i ∈ Region.ready md ops listed → Safe P ops C D oi a →
      (∀ u, MayGive P ops C D oi a u → wpAnyR P md ops C D Q fuel (listed.setIfInBounds i true) (a.put oi.dst u)) → wpAnyR P md ops C D Q (fuel + 1) listed a := by
  intro fuel
  induction fuel with
  | zero =>
    intro listed a _ hr hy H
    refine ⟨fun h => (by rw [h] at hr; cases hr), fun j hj => ?_⟩
    by_cases hji : j = i
    · subst hji; exact (rOp_iff hi).2 ⟨hy, H⟩
    · obtain ⟨u, hu⟩ := reach_exists hC hy
      have h1 := ready_mono hj hji
      rw [(H u hu).1] at h1
      cases h1
  | succ fuel ih =>
    intro listed a hfree hr hy H
    refine ⟨fun h => (by rw [h] at hr; cases hr), fun j hj => ?_⟩
    by_cases hji : j = i
    · subst hji; exact (rOp_iff hi).2 ⟨hy, H⟩
    · obtain ⟨hjun, oj, hoj, hall⟩ := mem_ready.1 hj
      have hnot : ∀ e ∈ oj.after, Region.binds md e = true → e.on ≠ i := fun e he hb heq => by
        have h1 := hall e he hb
        have h0 := (mem_ready.1 hr).1
        rw [heq] at h1
        rcases Nat.lt_or_ge i listed.size with h' | h'
        · simp [h'] at h0 h1; rw [h0] at h1; cases h1
        · simp [Array.getElem?_eq_none h'] at h1
      obtain ⟨p1, p2, p3⟩ := Oper.apart_spec (hfree j oj hoj hji hjun hnot)
      have hsi := fun cs b => hsel i oi cs b hi
      have hsj := fun cs b => hsel j oj cs b hoj
      have hfree' : ∀ k ok, ops[k]? = some ok → k ≠ i → (listed.setIfInBounds j true).getD k true = false →
          (∀ e ∈ ok.after, Region.binds md e = true → e.on ≠ i) → oi.apart ops ok = true := fun k ok hk hki hun hno => by
        refine hfree k ok hk hki ?_ hno
        by_cases hjk : j = k
        · subst hjk; exact hjun
        · rw [getD_set_ne true hjk] at hun; exact hun
      have hj2 : ∀ u, MayGive P ops C D oi a u → Safe P ops C D oj a ∧ ∀ v, MayGive P ops C D oj a v → wpAnyR P md ops C D Q fuel ((listed.setIfInBounds i true).setIfInBounds j true) ((a.put oi.dst u).put oj.dst v) := fun u hu => by
        have h1 := (rOp_iff hoj).1 ((H u hu).2 j (ready_mono hj hji))
        refine ⟨(Safe.put hsj p1).1 h1.1, fun v hv => h1.2 v ((MayGive.put hsj p1).2 hv)⟩
      obtain ⟨u0, hu0⟩ := reach_exists hC hy
      refine (rOp_iff hoj).2 ⟨(hj2 u0 hu0).1, fun v hv => ?_⟩
      refine ih (listed.setIfInBounds j true) (a.put oj.dst v) hfree' (ready_mono hr (Ne.symm hji)) ((Safe.put hsi p3).2 hy) fun u hu => ?_
      have h2 := (hj2 u ((MayGive.put hsi p3).1 hu)).2 v hv
      rw [Array.setIfInBounds_comm _ _ hji, ← Act.put_comm a u v p2]
      exact h2

theorem wpAnyR_lex {Q : Act → Prop} {w0 : World} (hC : C w0) (hs : Region.noSelect ops = true) : ∀ (l : List Oper) (k : Nat) (listed : Array Bool) (a : Act), (∀ j, l[j]? = ops[k + j]?) →
    Region.lexFrom md ops l.length k listed = true → wpRel P ops C D Q l a → wpAnyR P md ops C D Q l.length listed a
  | [], _, _, _, _, hB, h => ⟨by simpa [Region.lexFrom] using hB, h⟩
  | o :: l, k, listed, a, hl, hB, h => by
    have h0 : ops[k]? = some o := by simpa using (hl 0).symm
    simp only [List.length_cons, Region.lexFrom, Bool.and_eq_true] at hB
    obtain ⟨⟨hr, hf⟩, hB'⟩ := hB
    have hst : rOp P ops C D k (wpRel P ops C D Q l) a := by unfold rOp; simp only [h0]; exact h
    obtain ⟨hy, hK⟩ := (rOp_iff h0).1 hst
    exact wpAnyR_first hC h0 (Region.noSelect_spec hs) l.length listed a (Region.free_spec h0 hf) (by simpa using hr) hy
      (fun u hu => wpAnyR_lex hC hs l (k + 1) _ _ (fun j => by have := hl (j + 1); simpa [Nat.add_assoc, Nat.add_comm 1 j] using this) hB' (hK u hu))

/-- A region that draws its order, walked once. -/
theorem wp_region_rel {id : Nat} {Q : Exit → Act → World → Prop} {a : Act} {w : World} {l : List Oper} (C : World → Prop) (D : Option Tmp → Value → Prop)
    (hm : P.follows .mixedOrders = true) (hB : Region.lexB .any l.toArray = true) (hC : C { w with drawn := w.drawn + 1 })
    (h : wpRel P l.toArray C D (fun a' => ∀ w', C w' → Q .normal a' w') l a) : (Code.region id l.toArray true).wp P Q a w := by
  simp only [Region.lexB, Bool.and_eq_true] at hB
  refine wp_region_any hm (wpAny_of_rel (C := C) (D := D) (Q := fun a' => ∀ w', C w' → Q .normal a' w') (fun _ w' hw' h => h w' hw') _ _ _ _ hC ?_)
  have := wpAnyR_lex (C := C) (D := D) (md := .any) hC hB.1 l 0 (Array.replicate l.toArray.size false) a (by simp) (by simpa using hB.2) h
  simpa using this

/-! ### The same with a forced tail -/

def wpAnyRL (P : Program) (md : Region.Mode) (ops : Array Oper) (C : World → Prop) (D : Option Tmp → Value → Prop) (n : Nat) (L : Array Bool → Act → Prop) : Nat → Array Bool → Act → Prop
  | 0, listed, a => L listed a
  | f + 1, listed, a =>
    Region.ready md ops listed ≠ [] ∧ ∀ i ∈ Region.ready md ops listed, i < n ∧ rOp P ops C D i (wpAnyRL P md ops C D n L f (listed.setIfInBounds i true)) a

theorem wpAny_of_headR {n g : Nat} {L : Array Bool → Act → Prop} {Q' : Exit → Act → World → Prop} (hL : ∀ listed a w, C w → L listed a → wpAny P md ops Q' g listed a w) :
    ∀ (f : Nat) (listed : Array Bool) (a : Act) (w : World), C w → wpAnyRL P md ops C D n L f listed a → wpAny P md ops Q' (f + g) listed a w
  | 0, listed, a, w, hw, h => by rw [Nat.zero_add]; exact hL _ _ _ hw h
  | f + 1, listed, a, w, hw, h => by
    rw [show f + 1 + g = (f + g) + 1 by omega]
    exact ⟨fun h0 => absurd h0 h.1, fun i hi => wpOp_of_rOp hw (fun a' w' hw' h' => wpAny_of_headR hL f _ a' w' hw' h') (h.2 i hi).2⟩

theorem wpAnyRL_first {w0 : World} (hC : C w0) {n i : Nat} {oi : Oper} {L : Array Bool → Act → Prop} (hi : ops[i]? = some oi) (hsel : ∀ (j : Nat) (o : Oper) cs b, ops[j]? = some o → o.op ≠ .select cs b)
    (hs : Region.sinkB md ops n = true) (hc : Region.chainB md ops n = true) (hn : n < ops.size) (hin : i < n)
    (hdone : ∀ listed a, L listed a → ∀ j ∈ Region.ready md ops listed, n ≤ j) :
    ∀ (f : Nat) (listed : Array Bool) (a : Act), HeadInv md ops n listed →
      (∀ j oj, ops[j]? = some oj → j ≠ i → listed.getD j true = false → (∀ e ∈ oj.after, Region.binds md e = true → e.on ≠ i) → oi.apart ops oj = true) →
      i ∈ Region.ready md ops listed → Safe P ops C D oi a →
      (∀ u, MayGive P ops C D oi a u → wpAnyRL P md ops C D n L f (listed.setIfInBounds i true) (a.put oi.dst u)) → wpAnyRL P md ops C D n L (f + 1) listed a := by
  intro f
  induction f with
  | zero =>
    intro listed a inv _ hr hy H
    have hun := (mem_ready.1 hr).1
    refine ⟨fun h => (by rw [h] at hr; cases hr), fun j hj => ?_⟩
    have hjn : j < n := by
      rcases Nat.lt_or_ge j n with h | h
      · exact h
      · exact absurd hj (tail_waits hs hc hn inv _ i rfl hin hun j h)
    refine ⟨hjn, ?_⟩
    by_cases hji : j = i
    · subst hji; exact (rOp_iff hi).2 ⟨hy, H⟩
    · obtain ⟨u, hu⟩ := reach_exists hC hy
      have := hdone _ _ (H u hu) j (ready_mono hj hji)
      omega
  | succ f ih =>
    intro listed a inv hfree hr hy H
    have hun := (mem_ready.1 hr).1
    refine ⟨fun h => (by rw [h] at hr; cases hr), fun j hj => ?_⟩
    have hjn : j < n := by
      rcases Nat.lt_or_ge j n with h | h
      · exact h
      · exact absurd hj (tail_waits hs hc hn inv _ i rfl hin hun j h)
    refine ⟨hjn, ?_⟩
    by_cases hji : j = i
    · subst hji; exact (rOp_iff hi).2 ⟨hy, H⟩
    · obtain ⟨hjun, oj, hoj, hall⟩ := mem_ready.1 hj
      have hnot : ∀ e ∈ oj.after, Region.binds md e = true → e.on ≠ i := fun e he hb heq => by
        have h1 := hall e he hb
        rw [heq, getD_both hun] at h1
        cases h1
      obtain ⟨p1, p2, p3⟩ := Oper.apart_spec (hfree j oj hoj hji hjun hnot)
      have hsi := fun cs b => hsel i oi cs b hi
      have hsj := fun cs b => hsel j oj cs b hoj
      have hfree' : ∀ k ok, ops[k]? = some ok → k ≠ i → (listed.setIfInBounds j true).getD k true = false →
          (∀ e ∈ ok.after, Region.binds md e = true → e.on ≠ i) → oi.apart ops ok = true := fun k ok hk hki hun hno => by
        refine hfree k ok hk hki ?_ hno
        by_cases hjk : j = k
        · subst hjk; exact hjun
        · rw [getD_set_ne true hjk] at hun; exact hun
      have hj2 : ∀ u, MayGive P ops C D oi a u → Safe P ops C D oj a ∧ ∀ v, MayGive P ops C D oj a v → wpAnyRL P md ops C D n L f ((listed.setIfInBounds i true).setIfInBounds j true) ((a.put oi.dst u).put oj.dst v) := fun u hu => by
        have h1 := (rOp_iff hoj).1 ((H u hu).2 j (ready_mono hj hji)).2
        refine ⟨(Safe.put hsj p1).1 h1.1, fun v hv => h1.2 v ((MayGive.put hsj p1).2 hv)⟩
      obtain ⟨u0, hu0⟩ := reach_exists hC hy
      refine (rOp_iff hoj).2 ⟨(hj2 u0 hu0).1, fun v hv => ?_⟩
      refine ih (listed.setIfInBounds j true) (a.put oj.dst v) (inv.set hj hjn) hfree' (ready_mono hr (Ne.symm hji)) ((Safe.put hsi p3).2 hy) fun u hu => ?_
      have h2 := (hj2 u ((MayGive.put hsi p3).1 hu)).2 v hv
      rw [Array.setIfInBounds_comm _ _ hji, ← Act.put_comm a u v p2]
      exact h2

theorem wpAnyRL_lex {w0 : World} (hC : C w0) {n g : Nat} {Lq : Act → Prop} (hsel : Region.noSelect ops = true) (hs : Region.sinkB md ops n = true) (hc : Region.chainB md ops n = true) (hn : n < ops.size) :
    ∀ (l : List Oper) (k : Nat) (listed : Array Bool) (a : Act), (∀ j, j < l.length → l[j]? = ops[k + j]?) → k + l.length = n → HeadInv md ops n listed →
    Region.lexHead md ops g l.length k listed = true → wpRel P ops C D Lq l a →
    wpAnyRL P md ops C D n (fun listed' a' => Region.seqB md ops g n listed' = true ∧ Lq a') l.length listed a
  | [], k, listed, a, _, hk, _, hB, h => by
    have : k = n := by simpa using hk
    subst this
    exact ⟨by simpa [Region.lexHead] using hB, h⟩
  | o :: l, k, listed, a, hl, hk, inv, hB, h => by
    have h0 : ops[k]? = some o := by simpa using (hl 0 (by simp)).symm
    simp only [List.length_cons, Region.lexHead, Bool.and_eq_true] at hB
    obtain ⟨⟨hr, hf⟩, hB'⟩ := hB
    have hkn : k < n := by simp only [List.length_cons] at hk; omega
    have hr' : k ∈ Region.ready md ops listed := by simpa using hr
    have hst : rOp P ops C D k (wpRel P ops C D Lq l) a := by unfold rOp; simp only [h0]; exact h
    obtain ⟨hy, hK⟩ := (rOp_iff h0).1 hst
    exact wpAnyRL_first hC h0 (Region.noSelect_spec hsel) hs hc hn hkn (fun listed' a' hL => seqB_ready hL.1) l.length listed a inv (Region.free_spec h0 hf) hr' hy
      (fun u hu => wpAnyRL_lex hC hsel hs hc hn l (k + 1) _ _ (fun j hj => by have := hl (j + 1) (by simp; omega); simpa [Nat.add_assoc, Nat.add_comm 1 j] using this) (by simp only [List.length_cons] at hk; omega) (inv.set hr' hkn) hB' (hK u hu))

/-- A region that draws its order, its first n operations walked once, its tail forced. -/
theorem wp_region_rel_tail {id : Nat} {Q : Exit → Act → World → Prop} {a : Act} {w : World} {l : List Oper} (C : World → Prop) (D : Option Tmp → Value → Prop) (n : Nat)
    (hm : P.follows .mixedOrders = true) (hB : Region.lexTailB .any l.toArray n = true) (hC : C { w with drawn := w.drawn + 1 })
    (h : wpRel P l.toArray C D (fun a' => ∀ w', C w' → wpList P l.toArray Q (l.drop n) a' w') (l.take n) a) : (Code.region id l.toArray true).wp P Q a w := by
  simp only [Region.lexTailB, Bool.and_eq_true, decide_eq_true_eq] at hB
  obtain ⟨⟨⟨⟨hsel, hn⟩, hs⟩, hc⟩, hlex⟩ := hB
  have hn' : n < l.length := by simpa using hn
  have htl : (l.take n).length = n := by simp; omega
  have hdl : (l.drop n).length = l.toArray.size - n := by simp
  have inv0 : HeadInv .any l.toArray n (Array.replicate l.toArray.size false) :=
    ⟨by simp, fun j oj _ hl => (by rw [getD_replicate_false] at hl; cases hl), fun t _ ht => getD_in (by simpa using ht) (getD_replicate_false _ _)⟩
  have H := wpAnyRL_lex (C := C) (D := D) (md := .any) (g := l.toArray.size - n) hC hsel hs hc hn (l.take n) 0 _ a (fun j hj => by
    have hj' : j < n := by rw [htl] at hj; exact hj
    simp [hj']) (by simpa using htl) inv0 (by rw [htl]; exact hlex) h
  refine wp_region_any hm ?_
  have := wpAny_of_headR (C := C) (D := D) (Q' := Q) (g := l.toArray.size - n) (fun listed a' w' hw' hL => by
    have := wpAny_of_seq (md := .any) (Q' := Q) (l.drop n) n listed a' w' (fun j => by simp [List.getElem?_drop]) (by rw [hdl]; exact hL.1) (hL.2 w' hw')
    rwa [hdl] at this) _ _ _ _ hC H
  rw [htl, show n + (l.toArray.size - n) = l.toArray.size by omega] at this
  exact this
end
end Go.Proofs.Ytggcajillncamaa
namespace Go.Proofs.Ytggcajillncamaa
open Go.RowKit Ieee

@[go_sem high] theorem bin_leq (t : TypeId) (a b : Nat) : binOp .leq t (.float .f32 a) (.float .f32 b) = pure (.bool (fle a b)) := binOp_float_cmp_leq t .f32 a b
@[go_sem high] theorem bin_lss (t : TypeId) (a b : Nat) : binOp .lss t (.float .f32 a) (.float .f32 b) = pure (.bool (flt a b)) := binOp_float_cmp_lss t .f32 a b
@[go_sem high] theorem bin_eql (t : TypeId) (a b : Nat) : binOp .eql t (.float .f32 a) (.float .f32 b) = pure (.bool (feq a b)) := binOp_float_cmp_eql t .f32 a b
@[go_sem high] theorem bin_neq (t : TypeId) (a b : Nat) : binOp .neq t (.float .f32 a) (.float .f32 b) = pure (.bool (!feq a b)) := binOp_float_cmp_neq t .f32 a b
theorem single_swap (a b : Nat) : single.order b a = (single.order a b).map Ordering.swap := order_swap _ _
@[go_sem high] theorem bin_gtr (t : TypeId) (a b : Nat) : binOp .gtr t (.float .f32 a) (.float .f32 b) = pure (.bool (flt b a)) := by
  rw [binOp_float_cmp_gtr]
  have h : (FloatKind.f32.format.order a b == some .gt) = flt b a := by
    show (single.order a b == some .gt) = (single.order b a == some .lt)
    rw [single_swap a b]
    cases single.order a b with
    | none => rfl
    | some o => cases o <;> rfl
  rw [h]
@[go_sem high] theorem bin_geq (t : TypeId) (a b : Nat) : binOp .geq t (.float .f32 a) (.float .f32 b) = pure (.bool (fle b a)) := by
  rw [binOp_float_cmp_geq]
  have h : (FloatKind.f32.format.order a b == some .gt || FloatKind.f32.format.order a b == some .eq) = fle b a := by
    show (single.order a b == some .gt || single.order a b == some .eq) = (single.order b a == some .lt || single.order b a == some .eq)
    rw [single_swap a b]
    cases single.order a b with
    | none => rfl
    | some o => cases o <;> rfl
  rw [h]

@[go_sem] theorem relUpon_value {P : Program} {C : World → Prop} {D : Option Tmp → Value → Prop} {dst : Option Tmp} {K : Value → Prop} {u : Value} {w : World} : relUpon P C D dst K (.ok (.value u) w) = (C w ∧ K u) := rfl
@[go_sem] theorem relUpon_skip {P : Program} {C : World → Prop} {D : Option Tmp → Value → Prop} {dst : Option Tmp} {K : Value → Prop} {w : World} : relUpon P C D dst K (.ok .skip w) = (C w ∧ K undef) := rfl
@[go_sem] theorem relUpon_enter {P : Program} {C : World → Prop} {D : Option Tmp → Value → Prop} {dst : Option Tmp} {K : Value → Prop} {f : FuncId} {args : Array Value} {w : World} :
    relUpon P C D dst K (.ok (.enter f args) w) = (Calls P f args w (fun e w'' => ∃ v, e = .returned v ∧ D dst v ∧ C w'') ∧ ∀ v, D dst v → K v) := rfl

/-- w after some draws. -/
def Drew (w w' : World) : Prop := ∃ n, w' = w.drewN n
theorem Drew.refl (w : World) : Drew w w := ⟨0, rfl⟩
theorem Drew.mk (w : World) (n : Nat) : Drew w (w.drewN n) := ⟨n, rfl⟩
theorem Drew.more {w w' : World} (h : Drew w w') (n : Nat) : Drew w (w'.drewN n) := by
  obtain ⟨m, rfl⟩ := h
  exact ⟨m + n, World.drewN_drewN w m n⟩
theorem Drew.trans {a b c : World} (h : Drew a b) (k : Drew b c) : Drew a c := by
  obtain ⟨n, rfl⟩ := k
  exact h.more n
theorem Drew.below {w w' : World} (h : Drew w w') (B : Nat) : Below B w w' := by
  obtain ⟨n, rfl⟩ := h
  exact ⟨rfl, rfl, rfl, Nat.le_refl _, fun _ _ => rfl⟩

/-- A region that draws, in the class of draws: of a world that has been drawn from already, too. -/
theorem region_drew {P : Program} {id : Nat} {Q : Exit → Act → World → Prop} {a : Act} {w : World} {l : List Oper} (D : Option Tmp → Value → Prop)
    (hm : P.follows .mixedOrders = true) (hB : Region.lexB .any l.toArray = true)
    (h : wpRel P l.toArray (Drew w) D (fun a' => ∀ w', Drew w w' → Q .normal a' w') l a) : (Code.region id l.toArray true).wp P Q a w :=
  wp_region_rel (Drew w) D hm hB (Drew.mk w 1) h
theorem region_drewN {P : Program} {id : Nat} {Q : Exit → Act → World → Prop} {a : Act} {w : World} {k : Nat} {l : List Oper} (D : Option Tmp → Value → Prop)
    (hm : P.follows .mixedOrders = true) (hB : Region.lexB .any l.toArray = true)
    (h : wpRel P l.toArray (Drew w) D (fun a' => ∀ w', Drew w w' → Q .normal a' w') l a) : (Code.region id l.toArray true).wp P Q a (w.drewN k) :=
  wp_region_rel (Drew w) D hm hB (Drew.mk w (k + 1)) h
theorem region_tail {P : Program} {id : Nat} {Q : Exit → Act → World → Prop} {a : Act} {w : World} {l : List Oper} (D : Option Tmp → Value → Prop) (n : Nat)
    (hm : P.follows .mixedOrders = true) (hB : Region.lexTailB .any l.toArray n = true)
    (h : wpRel P l.toArray (Drew w) D (fun a' => ∀ w', Drew w w' → wpList P l.toArray Q (l.drop n) a' w') (l.take n) a) : (Code.region id l.toArray true).wp P Q a w :=
  wp_region_rel_tail (Drew w) D n hm hB (Drew.mk w 1) h
theorem region_tailN {P : Program} {id : Nat} {Q : Exit → Act → World → Prop} {a : Act} {w : World} {k : Nat} {l : List Oper} (D : Option Tmp → Value → Prop) (n : Nat)
    (hm : P.follows .mixedOrders = true) (hB : Region.lexTailB .any l.toArray n = true)
    (h : wpRel P l.toArray (Drew w) D (fun a' => ∀ w', Drew w w' → wpList P l.toArray Q (l.drop n) a' w') (l.take n) a) : (Code.region id l.toArray true).wp P Q a (w.drewN k) :=
  wp_region_rel_tail (Drew w) D n hm hB (Drew.mk w (k + 1)) h

theorem relOp_fop {P : Program} {C : World → Prop} {D : Option Tmp → Value → Prop} {o : Oper} {a : Act} {K : Act → Prop} (hC : ∀ w n, C w → C (w.drewN n))
    {op : BinOp} {t yt : TypeId} {x y : Operand} (ho : o.op = .binOp op t x y yt) (hop : op = .add ∨ op = .sub ∨ op = .mul ∨ op = .quo)
    {p q : Nat} (hx : a.eval x = .float .f32 p) (hy : a.eval y = .float .f32 q)
    (h : ∀ r, FV r (fop op (cn p) (cn q)) → K (a.put o.dst (.float .f32 r))) : relOp P C D o a K := by
  intro w hw
  obtain ⟨r, n, hr, hv⟩ := run_fop (P := P) w hop t p q
  have he : (eqGuard op t x y (.float .f32 p) (.float .f32 q)).run P w = .ok () w := by
    rcases hop with rfl | rfl | rfl | rfl <;> rfl
  unfold execOp
  simp only [ho, hx, hy, Sem.run_bind, he, hr, Result.andThen_ok, Sem.run_pure]
  exact ⟨hC w n hw, h r hv⟩

/-- min of two floats, the second one being a number that is no zero: the first one if it is less, else the second one. -/
theorem drewN_Drew_closed (w0 : World) : ∀ w n, Drew w0 w → Drew w0 (w.drewN n) := fun _ n h => h.more n

/-- A call's value in a region: the one value u. -/
def DIs (u : Value) : Option Tmp → Value → Prop := fun _ v => v = u
theorem run_store_f32 (P : Program) (w : World) (a : Addr) (m : Mode) (b : Nat) : (store a (.float .f32 b) m).run P w = stored P w a (.float .f32 b) m := run_store P w a _ m rfl
attribute [go_sem] run_store_f32
end Go.Proofs.Ytggcajillncamaa
namespace Go.Proofs.Ytggcajillncamaa
open Ieee

/-- What a rung stands for, in units of the least place. -/
def fval (f : Format) (r : Nat) : Nat := if r < f.binade then r else (f.binade + r % f.binade) * 2 ^ (r / f.binade - 1)
def fsgn (f : Format) (x : Nat) : Bool := x / f.signWeight % 2 == 1
def frung (f : Format) (x : Nat) : Nat := x % f.signWeight
def sgnd (s : Bool) (n : Nat) : Int := if s then -(n : Int) else n
/-- The signed rung. -/
def skey (f : Format) (x : Nat) : Int := sgnd (fsgn f x) (frung f x)

theorem fval_lt (f : Format) {r s : Nat} (h : r < s) : fval f r < fval f s := by
  have hB := binade_pos f
  unfold fval
  generalize f.binade = B at *
  by_cases h2 : s < B
  · rw [if_pos (by omega), if_pos h2]; exact h
  · rw [if_neg h2]
    have p2 : 0 < 2 ^ (s / B - 1) := Nat.two_pow_pos _
    by_cases h1 : r < B
    · rw [if_pos h1]
      calc r < B := h1
        _ ≤ B + s % B := Nat.le_add_right _ _
        _ = (B + s % B) * 1 := (Nat.mul_one _).symm
        _ ≤ (B + s % B) * 2 ^ (s / B - 1) := Nat.mul_le_mul_left _ p2
    · rw [if_neg h1]
      have hd : r / B ≤ s / B := Nat.div_le_div_right (by omega)
      have q1 : 1 ≤ r / B := (Nat.one_le_div_iff hB).2 (by omega)
      have er := Nat.div_add_mod r B
      have es := Nat.div_add_mod s B
      have mr := Nat.mod_lt r hB
      rcases Nat.lt_or_ge (r / B) (s / B) with hq | hq
      · have h3 : (B + r % B) * 2 ^ (r / B - 1) < (2 * B) * 2 ^ (r / B - 1) := Nat.mul_lt_mul_of_pos_right (by omega) (Nat.two_pow_pos _)
        have h4 : (2 * B) * 2 ^ (r / B - 1) = B * 2 ^ (r / B) := by
          rw [Nat.mul_comm 2 B, Nat.mul_assoc, ← Nat.pow_succ', show (r / B - 1).succ = r / B from by omega]
        have h5 : B * 2 ^ (r / B) ≤ B * 2 ^ (s / B - 1) := Nat.mul_le_mul_left _ (Nat.pow_le_pow_right (by omega) (by omega))
        have h6 : B * 2 ^ (s / B - 1) ≤ (B + s % B) * 2 ^ (s / B - 1) := Nat.mul_le_mul_right _ (Nat.le_add_right _ _)
        omega
      · have hq' : r / B = s / B := Nat.le_antisymm hd hq
        rw [hq'] at er ⊢
        exact Nat.mul_lt_mul_of_pos_right (by omega) p2

theorem fval_le (f : Format) {r s : Nat} (h : r ≤ s) : fval f r ≤ fval f s := by
  rcases Nat.lt_or_ge r s with h1 | h1
  · exact Nat.le_of_lt (fval_lt f h1)
  · rw [Nat.le_antisymm h h1]; exact Nat.le_refl _

/-- A finite word, read. -/
theorem read_number (f : Format) {x : Nat} (h : frung f x < f.infRung) :
    ∃ m p, f.read x = .number (fsgn f x) m p ∧ f.leastPlace ≤ p ∧ m * 2 ^ (p - f.leastPlace).toNat = fval f (frung f x) := by
  unfold Format.read frung fsgn fval at *
  dsimp only
  by_cases h1 : x % f.signWeight < f.binade
  · rw [if_pos h1, if_pos h1]
    exact ⟨_, _, rfl, Int.le_refl _, by simp⟩
  · rw [if_neg h1, if_pos h, if_neg h1]
    refine ⟨_, _, rfl, by omega, ?_⟩
    congr 2
    omega

theorem cmp_mul (a b : Int) (c : Nat) (hc : 0 < c) : compare (a * c) (b * c) = compare a b := by
  have hc' : (0 : Int) < c := by omega
  rcases Int.lt_trichotomy a b with h | h | h
  · rw [Int.compare_eq_lt.2 h, Int.compare_eq_lt.2 (Int.mul_lt_mul_of_pos_right h hc')]
  · subst h; rw [Int.compare_eq_eq.2 rfl, Int.compare_eq_eq.2 rfl]
  · rw [Int.compare_eq_gt.2 h, Int.compare_eq_gt.2 (Int.mul_lt_mul_of_pos_right h hc')]

theorem signed_scale (s : Bool) (m k e : Nat) : signed s m k * (2 ^ e : Nat) = sgnd s (m * 2 ^ (k + e)) := by
  unfold signed sgnd
  have h : ((m <<< k : Nat) : Int) * ((2 ^ e : Nat) : Int) = ((m * 2 ^ (k + e) : Nat) : Int) := by
    rw [Nat.shiftLeft_eq, Nat.pow_add, ← Nat.mul_assoc]
    exact (Int.natCast_mul _ _).symm
  cases s
  · exact h
  · simp only [if_true]; rw [Int.neg_mul, h]

theorem sgnd_lt_mono {V : Nat → Nat} (hV : ∀ {a b : Nat}, a < b → V a < V b) (h0 : V 0 = 0) (s t : Bool) (a b : Nat) :
    compare (sgnd s (V a)) (sgnd t (V b)) = compare (sgnd s a) (sgnd t b) := by
  have hle : ∀ {a b : Nat}, a ≤ b → V a ≤ V b := fun {a b} h => by
    rcases Nat.lt_or_ge a b with h1 | h1
    · exact Nat.le_of_lt (hV h1)
    · rw [Nat.le_antisymm h h1]; exact Nat.le_refl _
  have hpos : ∀ {a : Nat}, 0 < a → 0 < V a := fun {a} h => by have := hV h; rw [h0] at this; exact this
  have key : ∀ x y : Int, ∀ x' y' : Int, (x < y ↔ x' < y') → (y < x ↔ y' < x') → compare x y = compare x' y' := fun x y x' y' h1 h2 => by
    rcases Int.lt_trichotomy x y with h | h | h
    · rw [Int.compare_eq_lt.2 h, Int.compare_eq_lt.2 (h1.1 h)]
    · have : x' = y' := by
        have a1 : ¬ x' < y' := fun k => by have := h1.2 k; omega
        have a2 : ¬ y' < x' := fun k => by have := h2.2 k; omega
        omega
      rw [Int.compare_eq_eq.2 h, Int.compare_eq_eq.2 this]
    · rw [Int.compare_eq_gt.2 h, Int.compare_eq_gt.2 (h2.1 h)]
  have both : ∀ s t : Bool, ∀ a b : Nat, (sgnd s (V a) < sgnd t (V b) ↔ sgnd s a < sgnd t b) := fun s t a b => by
    have e1 : V a < V b ↔ a < b := ⟨fun h => by
      rcases Nat.lt_or_ge a b with h1 | h1
      · exact h1
      · have := hle h1; omega, hV⟩
    have e2 : V b < V a ↔ b < a := ⟨fun h => by
      rcases Nat.lt_or_ge b a with h1 | h1
      · exact h1
      · have := hle h1; omega, hV⟩
    have z1 : 0 < V a ↔ 0 < a := ⟨fun h => by
      rcases Nat.eq_zero_or_pos a with h1 | h1
      · rw [h1, h0] at h; omega
      · exact h1, hpos⟩
    have z2 : 0 < V b ↔ 0 < b := ⟨fun h => by
      rcases Nat.eq_zero_or_pos b with h1 | h1
      · rw [h1, h0] at h; omega
      · exact h1, hpos⟩
    cases s <;> cases t <;> simp only [sgnd, if_true, Bool.false_eq_true, if_false] <;> omega
  exact key _ _ _ _ (both s t a b) (both t s b a)

theorem fval_zero (f : Format) : fval f 0 = 0 := by unfold fval; rw [if_pos (binade_pos f)]

/-- The order of two words that are no NaNs. -/
theorem order_skey (f : Format) (hb : f.binade ≤ f.infRung) {x y : Nat} (hx : (f.read x).isNaN = false) (hy : (f.read y).isNaN = false) :
    f.order x y = some (compare (skey f x) (skey f y)) := by
  rw [read_isNaN f hb] at hx hy
  have hx' : frung f x ≤ f.infRung := by unfold frung; simpa using hx
  have hy' : frung f y ≤ f.infRung := by unfold frung; simpa using hy
  have hinf : ∀ z, frung f z = f.infRung → f.read z = .infinity (fsgn f z) := fun z hz => by
    unfold frung at hz
    unfold Format.read fsgn
    dsimp only
    rw [if_neg (by omega), if_neg (by omega), if_pos hz]
  unfold Format.order skey
  rcases Nat.lt_or_ge (frung f x) f.infRung with h1 | h1
  · obtain ⟨m, i, e1, li, vi⟩ := read_number f h1
    rcases Nat.lt_or_ge (frung f y) f.infRung with h2 | h2
    · obtain ⟨n, j, e2, lj, vj⟩ := read_number f h2
      rw [e1, e2]
      show some (compare (signed (fsgn f x) m (i - min i j).toNat) (signed (fsgn f y) n (j - min i j).toNat)) = _
      rw [← cmp_mul _ _ (2 ^ (min i j - f.leastPlace).toNat) (Nat.two_pow_pos _), signed_scale, signed_scale,
        show (i - min i j).toNat + (min i j - f.leastPlace).toNat = (i - f.leastPlace).toNat from by omega,
        show (j - min i j).toNat + (min i j - f.leastPlace).toNat = (j - f.leastPlace).toNat from by omega, vi, vj]
      rw [sgnd_lt_mono (fun {a b} h => fval_lt f h) (fval_zero f)]
    · have h2' := Nat.le_antisymm hy' h2
      rw [e1, hinf y h2', h2']
      show some (if fsgn f y then Ordering.gt else Ordering.lt) = _
      congr 1
      cases fsgn f y
      · simp only [Bool.false_eq_true, if_false]
        symm; rw [Int.compare_eq_lt]
        unfold sgnd; split <;> simp <;> omega
      · simp only [if_true]
        symm; rw [Int.compare_eq_gt]
        unfold sgnd; simp only [if_true]; split <;> omega
  · have h1' := Nat.le_antisymm hx' h1
    rw [hinf x h1', h1']
    rcases Nat.lt_or_ge (frung f y) f.infRung with h2 | h2
    · obtain ⟨n, j, e2, lj, vj⟩ := read_number f h2
      rw [e2]
      show some (if fsgn f x then Ordering.lt else Ordering.gt) = _
      congr 1
      cases fsgn f x
      · simp only [Bool.false_eq_true, if_false]
        symm; rw [Int.compare_eq_gt]
        unfold sgnd; simp only [Bool.false_eq_true, if_false]; split <;> omega
      · simp only [if_true]
        symm; rw [Int.compare_eq_lt]
        unfold sgnd; simp only [if_true]; split <;> omega
    · have h2' := Nat.le_antisymm hy' h2
      rw [hinf y h2', h2']
      show some (compare (fsgn f y).toNat (fsgn f x).toNat) = _
      congr 1
      have hp : 0 < f.infRung := Nat.lt_of_lt_of_le (binade_pos f) hb
      cases fsgn f x <;> cases fsgn f y
      · simp [sgnd]
      · symm
        show compare (f.infRung : Int) (-(f.infRung : Int)) = .gt
        rw [Int.compare_eq_gt]; omega
      · symm
        show compare (-(f.infRung : Int)) (f.infRung : Int) = .lt
        rw [Int.compare_eq_lt]; omega
      · simp [sgnd]

/-- Two words of the width with one signed rung, which is not 0, are one. -/
theorem skey_inj (f : Format) {x y : Nat} (hx : x < 2 * f.signWeight) (hy : y < 2 * f.signWeight) (h : skey f x = skey f y) (h0 : skey f x ≠ 0) : x = y := by
  unfold skey sgnd fsgn frung at *
  have hp : 0 < f.signWeight := Nat.two_pow_pos _
  have ex := Nat.div_add_mod x f.signWeight
  have ey := Nat.div_add_mod y f.signWeight
  have dx : x / f.signWeight < 2 := (Nat.div_lt_iff_lt_mul hp).2 (by omega)
  have dy : y / f.signWeight < 2 := (Nat.div_lt_iff_lt_mul hp).2 (by omega)
  generalize x / f.signWeight = a at *
  generalize y / f.signWeight = b at *
  generalize x % f.signWeight = c at *
  generalize y % f.signWeight = d at *
  have ha : a = 0 ∨ a = 1 := by omega
  have hb : b = 0 ∨ b = 1 := by omega
  rcases ha with rfl | rfl <;> rcases hb with rfl | rfl <;> simp at h h0 <;> omega
end Go.Proofs.Ytggcajillncamaa
namespace Go.Proofs.Ytggcajillncamaa
open Go.RowKit Ieee

theorem balloc {w W : World} (h : Below w.heap.size w W) (o : Obj) : Below w.heap.size w (W.alloc o) := h.alloc h.size o
theorem bdrewN {w W : World} {B : Nat} (h : Below B w W) (n : Nat) : Below B w (W.drewN n) := ⟨h.os, h.tape, h.output, h.size, h.block⟩
theorem bdrew {w W : World} {B : Nat} (h : Below B w W) : Below B w W.drew := h.drew
theorem bstep {w W W' : World} (h : Below w.heap.size w W) (k : Below W.heap.size W W') : Below w.heap.size w W' := h.trans (k.mono h.size)
theorem bset {w W : World} (h : Below w.heap.size w W) {p : Addr} (hp : w.heap.size ≤ p.block) (u : Value) : Below w.heap.size w (W.setCell p u) := h.setCell hp u
theorem bc {w W : World} (h : Below w.heap.size w W) : ∀ b o, b < w.heap.size → W.cell? ⟨b, o, none⟩ = w.cell? ⟨b, o, none⟩ := fun b o hb => h.cell (p := ⟨b, o, none⟩) hb
theorem bf {w W : World} (h : Below w.heap.size w W) : ∀ b o, b < w.heap.size → W.frozen? ⟨b, o, none⟩ = w.frozen? ⟨b, o, none⟩ := fun b o hb => h.frozen (p := ⟨b, o, none⟩) hb

/-- The values of several calls in a region, slot by slot. -/
def DAt (l : List (Nat × Value)) : Option Tmp → Value → Prop := fun d v => (d.bind fun k => l.lookup k) = some v
/-- The class of worlds that are as w was below its heap's size (a name that the walk does not open). -/
def Bel (w w' : World) : Prop := Below w.heap.size w w'
theorem Bel.mk {w w' : World} (h : Below w.heap.size w w') : Bel w w' := h
theorem Bel.out {w w' : World} (h : Bel w w') : Below w.heap.size w w' := h
theorem Bel.drewN {w w' : World} (h : Bel w w') (n : Nat) : Bel w (w'.drewN n) := bdrewN h n
theorem Bel.alloc {w w' : World} (h : Bel w w') (o : Obj) : Bel w (w'.alloc o) := balloc h o
theorem Bel.step {w w' w'' : World} (h : Bel w w') (k : Below w'.heap.size w' w'') : Bel w w'' := bstep h k
theorem Bel_closed (w0 : World) : ∀ w n, Bel w0 w → Bel w0 (w.drewN n) := fun _ n h => h.drewN n
/-- A region that draws, in the class of worlds that are as this one was below its heap's size. -/
theorem region_below {P : Program} {id : Nat} {Q : Exit → Act → World → Prop} {a : Act} {w : World} {l : List Oper} (D : Option Tmp → Value → Prop)
    (hm : P.follows .mixedOrders = true) (hB : Region.lexB .any l.toArray = true)
    (h : wpRel P l.toArray (Bel w) D (fun a' => ∀ w', Bel w w' → Q .normal a' w') l a) : (Code.region id l.toArray true).wp P Q a w :=
  wp_region_rel (Bel w) D hm hB ⟨rfl, rfl, rfl, Nat.le_refl _, fun _ _ => rfl⟩ h

/-- A slice's rows, read: row i has the cells f i 0, f i 1, .. -/
def Rd (w : World) (A : Option Addr) (n sz : Nat) (f : Nat → Nat → Value) : Prop :=
  0 < n → ∃ b off, A = some ⟨b, off, none⟩ ∧ b < w.heap.size ∧ ∀ i, i < n → ∀ j, j < sz → w.cell? ⟨b, off + i * sz + j, none⟩ = some (f i j)
theorem Rd.below {w W : World} {A : Option Addr} {n sz : Nat} {f : Nat → Nat → Value} (h : Rd w A n sz f) (k : Below w.heap.size w W) : Rd W A n sz f := by
  intro hn
  obtain ⟨b, off, e, hb, hc⟩ := h hn
  exact ⟨b, off, e, Nat.lt_of_lt_of_le hb k.size, fun i hi j hj => (k.cell (p := ⟨b, _, none⟩) hb).trans (hc i hi j hj)⟩
theorem Rd.zero {w : World} {A : Option Addr} {sz : Nat} {f : Nat → Nat → Value} : Rd w A 0 sz f := fun h => absurd h (by omega)
end Go.Proofs.Ytggcajillncamaa
