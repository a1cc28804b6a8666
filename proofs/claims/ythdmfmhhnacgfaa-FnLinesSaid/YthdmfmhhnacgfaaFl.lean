/- Single floats up to the bits of a NaN: the canonical word, the four operations on canonical words, and what the machine's operations give. The machine asks the tape for the bits of a NaN: nothing here depends on them. -/
import Derived.Test.YthdmfmhhnacgfaaIe
import Derived.WalkKit
import Derived.WalkLawsBesides
import Derived.Deep.Draws
namespace Go.Proofs.Ythdmfmhhnacgfaa
open Ieee

/-- The word that stands for every NaN. -/
def nanW : Nat := 2143289344
def isn (b : Nat) : Bool := (single.read b).isNaN
def cn (b : Nat) : Nat := if isn b = true then nanW else b
def fadd (x y : Nat) : Nat := (single.add x y).getD nanW
def fsub (x y : Nat) : Nat := (single.sub x y).getD nanW
def fmul (x y : Nat) : Nat := (single.mul x y).getD nanW
def fdiv (x y : Nat) : Nat := (single.div x y).getD nanW
def fop : BinOp → Nat → Nat → Nat
  | .add => fadd | .sub => fsub | .mul => fmul | .quo => fdiv | _ => fun _ _ => nanW
def fneg (x : Nat) : Nat := cn (x ^^^ 2147483648)
def flt (x y : Nat) : Bool := single.order x y == some .lt
def feq (x y : Nat) : Bool := single.order x y == some .eq
def fle (x y : Nat) : Bool := single.order x y == some .lt || single.order x y == some .eq

theorem single_bi : single.binade ≤ single.infRung := by decide
theorem isn_eq (b : Nat) : isn b = decide (2139095040 < b % 2147483648) := read_isNaN single single_bi b
theorem isn_nanW : isn nanW = true := by decide
theorem cn_cn (b : Nat) : cn (cn b) = cn b := by
  unfold cn
  split
  · simp [isn_nanW]
  · rename_i h; simp [h]
theorem isn_cn (b : Nat) : isn (cn b) = isn b := by
  unfold cn
  split
  · rename_i h; rw [h]; exact isn_nanW
  · rfl
theorem cn_of_not {b : Nat} (h : isn b = false) : cn b = b := by unfold cn; simp [h]
theorem cn_of_isn {b : Nat} (h : isn b = true) : cn b = nanW := by unfold cn; simp [h]

theorem op_none {f : Nat → Nat → Option Nat} (x y : Nat) (hl : isn x = true → f x y = none) : isn x = true → (f x y).getD nanW = nanW := fun h => by rw [hl h]; rfl
theorem add_nl {x : Nat} (y : Nat) (h : isn x = true) : single.add x y = none := by unfold Format.add; rw [sum_nan_left h]; rfl
theorem add_nr (x : Nat) {y : Nat} (h : isn y = true) : single.add x y = none := by unfold Format.add; rw [sum_nan_right h]; rfl
theorem sub_nl {x : Nat} (y : Nat) (h : isn x = true) : single.sub x y = none := by unfold Format.sub; rw [sum_nan_left h]; rfl
theorem sub_nr (x : Nat) {y : Nat} (h : isn y = true) : single.sub x y = none := by unfold Format.sub; rw [sum_nan_right (by rw [opposite_isNaN]; exact h)]; rfl
theorem mul_nl {x : Nat} (y : Nat) (h : isn x = true) : single.mul x y = none := by unfold Format.mul; rw [product_nan_left h]; rfl
theorem mul_nr (x : Nat) {y : Nat} (h : isn y = true) : single.mul x y = none := by unfold Format.mul; rw [product_nan_right h]; rfl
theorem div_nl {x : Nat} (y : Nat) (h : isn x = true) : single.div x y = none := by unfold Format.div; rw [quotient_nan_left h]; rfl
theorem div_nr (x : Nat) {y : Nat} (h : isn y = true) : single.div x y = none := by unfold Format.div; rw [quotient_nan_right h]; rfl
theorem order_nl {x : Nat} (y : Nat) (h : isn x = true) : single.order x y = none := order_nan_left h
theorem order_nr (x : Nat) {y : Nat} (h : isn y = true) : single.order x y = none := order_nan_right h

theorem bin_cn {α : Type} {f : Nat → Nat → Option α} (hl : ∀ x y, isn x = true → f x y = none) (hr : ∀ x y, isn y = true → f x y = none) (x y : Nat) : f (cn x) (cn y) = f x y := by
  cases hx : isn x
  · cases hy : isn y
    · rw [cn_of_not hx, cn_of_not hy]
    · rw [hr _ _ (by rw [isn_cn]; exact hy), hr _ _ hy]
  · rw [hl _ _ (by rw [isn_cn]; exact hx), hl _ _ hx]
theorem add_cn (x y : Nat) : single.add (cn x) (cn y) = single.add x y := bin_cn (f := single.add) (fun _ y h => add_nl y h) (fun x _ h => add_nr x h) x y
theorem sub_cn (x y : Nat) : single.sub (cn x) (cn y) = single.sub x y := bin_cn (f := single.sub) (fun _ y h => sub_nl y h) (fun x _ h => sub_nr x h) x y
theorem mul_cn (x y : Nat) : single.mul (cn x) (cn y) = single.mul x y := bin_cn (f := single.mul) (fun _ y h => mul_nl y h) (fun x _ h => mul_nr x h) x y
theorem div_cn (x y : Nat) : single.div (cn x) (cn y) = single.div x y := bin_cn (f := single.div) (fun _ y h => div_nl y h) (fun x _ h => div_nr x h) x y
theorem order_cn (x y : Nat) : single.order (cn x) (cn y) = single.order x y := bin_cn (f := single.order) (fun _ y h => order_nl y h) (fun x _ h => order_nr x h) x y
theorem flt_cn (x y : Nat) : flt (cn x) (cn y) = flt x y := by unfold flt; rw [order_cn]
theorem feq_cn (x y : Nat) : feq (cn x) (cn y) = feq x y := by unfold feq; rw [order_cn]
theorem fle_cn (x y : Nat) : fle (cn x) (cn y) = fle x y := by unfold fle; rw [order_cn]

theorem map_write_isn {d : Option Datum} {r : Nat} (h : d.map single.write = some r) (hd : ∀ e, d = some e → e.isNaN = false) : isn r = false := by
  cases d with
  | none => cases h
  | some d => cases h; exact write_notNaN single single_bi d (hd d rfl)
theorem add_isn {x y r : Nat} (h : single.add x y = some r) : isn r = false := map_write_isn h fun _ => sum_notNaN
theorem sub_isn {x y r : Nat} (h : single.sub x y = some r) : isn r = false := map_write_isn h fun _ => sum_notNaN
theorem mul_isn {x y r : Nat} (h : single.mul x y = some r) : isn r = false := map_write_isn h fun _ => product_notNaN
theorem div_isn {x y r : Nat} (h : single.div x y = some r) : isn r = false := map_write_isn h fun _ => quotient_notNaN

theorem cn_getD {o : Option Nat} (h : ∀ r, o = some r → isn r = false) : cn (o.getD nanW) = o.getD nanW := by
  cases o with
  | none => simp [cn_of_isn isn_nanW]
  | some r => exact cn_of_not (h r rfl)
theorem cn_fadd (x y : Nat) : cn (fadd x y) = fadd x y := cn_getD fun _ => add_isn
theorem cn_fsub (x y : Nat) : cn (fsub x y) = fsub x y := cn_getD fun _ => sub_isn
theorem cn_fmul (x y : Nat) : cn (fmul x y) = fmul x y := cn_getD fun _ => mul_isn
theorem cn_fdiv (x y : Nat) : cn (fdiv x y) = fdiv x y := cn_getD fun _ => div_isn

theorem floatBits_fop {op : BinOp} (hop : op = .add ∨ op = .sub ∨ op = .mul ∨ op = .quo) (x y : Nat) : (floatBits op .f32 x y).getD nanW = fop op (cn x) (cn y) ∧ (∀ r, floatBits op .f32 x y = some r → isn r = false) := by
  rcases hop with rfl | rfl | rfl | rfl
  · exact ⟨by show _ = fadd _ _; unfold fadd; rw [add_cn]; rfl, fun _ => add_isn⟩
  · exact ⟨by show _ = fsub _ _; unfold fsub; rw [sub_cn]; rfl, fun _ => sub_isn⟩
  · exact ⟨by show _ = fmul _ _; unfold fmul; rw [mul_cn]; rfl, fun _ => mul_isn⟩
  · exact ⟨by show _ = fdiv _ _; unfold fdiv; rw [div_cn]; rfl, fun _ => div_isn⟩

/-- A word that is a value's: its canonical word is v, and it fits. -/
def FV (r v : Nat) : Prop := cn r = v ∧ r < 4294967296
theorem FV.cn {r v : Nat} (h : FV r v) : cn r = v := h.1
theorem FV.lt {r v : Nat} (h : FV r v) : r < 4294967296 := h.2

theorem cut_word (t : Nat) : isn ((t % 2) * 2147483648 + 2139095041 + (t / 2) % 8388607) = true ∧ (t % 2) * 2147483648 + 2139095041 + (t / 2) % 8388607 < 4294967296 := by
  have h2 : t % 2 < 2 := Nat.mod_lt _ (by omega)
  have h3 : (t / 2) % 8388607 < 8388607 := Nat.mod_lt _ (by omega)
  generalize t % 2 = a at *
  generalize (t / 2) % 8388607 = c at *
  rw [isn_eq, decide_eq_true_iff]
  refine ⟨?_, by omega⟩
  have e : (a * 2147483648 + 2139095041 + c) % 2147483648 = 2139095041 + c := by
    rw [Nat.add_assoc, Nat.add_comm, Nat.add_mul_mod_self_right]
    exact Nat.mod_eq_of_lt (by omega)
  omega
theorem cut_eq (x y t : Nat) : Question.cut (.nanBits .f32 x y) t = (t % 2) * 2147483648 + 2139095041 + (t / 2) % 8388607 := by
  simp [Question.cut]
theorem cut_isn (x y t : Nat) : isn (Question.cut (.nanBits .f32 x y) t) = true ∧ Question.cut (.nanBits .f32 x y) t < 4294967296 := by
  rw [cut_eq]
  exact cut_word t

/-- One of the four operations: whatever the tape says, a word of the right value, and nothing but draws. -/
theorem run_fop {P : Program} (w : World) {op : BinOp} (hop : op = .add ∨ op = .sub ∨ op = .mul ∨ op = .quo) (t : TypeId) (x y : Nat) :
    ∃ r n, (binOp op t (.float .f32 x) (.float .f32 y)).run P w = .ok (.float .f32 r) (w.drewN n) ∧ FV r (fop op (cn x) (cn y)) := by
  obtain ⟨h1, h2⟩ := floatBits_fop hop x y
  cases hb : floatBits op .f32 x y with
  | some r =>
    rw [hb] at h1
    exact ⟨r, 0, run_float_arith w op t .f32 x y r hb, (cn_of_not (h2 r hb)).trans h1, (by have := floatBits_wf hb; simpa [Lit.wf] using this)⟩
  | none =>
    rw [hb] at h1
    have h3 : fop op (cn x) (cn y) = nanW := h1.symm
    obtain ⟨h4, h5⟩ := cut_isn x y (w.tape w.drawn (.nanBits .f32 x y))
    refine ⟨Question.cut (.nanBits .f32 x y) (w.tape w.drawn (.nanBits .f32 x y)), 1, ?_, ?_, h5⟩
    · have hn : ∀ (hh : floatBits op .f32 x y = none), (binOp op t (.float .f32 x) (.float .f32 y)).run P w = .ok (.float .f32 (Question.cut (.nanBits .f32 x y) (w.tape w.drawn (.nanBits .f32 x y)))) { w with drawn := w.drawn + 1 } := by
        intro hh
        unfold floatBits at hh
        rcases hop with rfl | rfl | rfl | rfl <;> simp only at hh <;> simp [binOp, Op.floatArith, hh, choose, Sem.run, Question.forced]
      exact hn hb
    · rw [cn_of_isn h4, h3]

theorem wpList_fop {P : Program} {ops : Array Oper} {rest : List Oper} {a : Act} {w : World} {Q : Exit → Act → World → Prop} {o : Oper} (hg : o.guard = none)
    {op : BinOp} {t yt : TypeId} {x y : Operand} (ho : o.op = .binOp op t x y yt) (hop : op = .add ∨ op = .sub ∨ op = .mul ∨ op = .quo)
    {p q : Nat} (hx : a.eval x = .float .f32 p) (hy : a.eval y = .float .f32 q)
    (h : ∀ r n, FV r (fop op (cn p) (cn q)) → wpList P ops Q rest (a.put o.dst (.float .f32 r)) (w.drewN n)) : wpList P ops Q (o :: rest) a w := by
  refine wpList_plain hg fun K hK => ?_
  obtain ⟨r, n, hr, hv⟩ := run_fop (P := P) w hop t p q
  have hh := hK _ _ (h r n hv)
  have he : (eqGuard op t x y (.float .f32 p) (.float .f32 q)).run P w = .ok () w := by
    rcases hop with rfl | rfl | rfl | rfl <;> rfl
  unfold Oper.wp execOp
  simp only [ho, hx, hy, Sem.run_bind, he, hr, Result.andThen_ok, Sem.run_pure, Oper.upon]
  exact hh
end Go.Proofs.Ythdmfmhhnacgfaa
