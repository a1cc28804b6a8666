/- Choices: wheels and parts. Choices: trains. Choices: the trains and plays of the laws of chapter 6. -/
import Derived.Test.YtljcjgliddhgkaaDoorDrwA
import Derived.Test.YtljcjgliddhgkaaDoorTrain
import Derived.Test.YtljcjgliddhgkaaDoorPlay
namespace Go.Proofs.YtljcjgliddhgkaaDoor
open Go.RowKit Ieee
open Go.Proofs.YtljcjgliddhgkaaDoorW.PrintWords
set_option maxRecDepth 100000

def wheels : List Int := [6, 8, 10, 12, 15, 16, 20, 24, 25, 30, 37, 48, 60, 96, 127, 200]
def WheelQ (g m : Nat) (w : World) (e : Ending) (w' : World) : Prop := ∃ i, i < 16 ∧ e = .returned (.int .i16 (wheels.getD i 0)) ∧ Gr g w w' ∧ Src w' g (m + 2)
theorem wheels_bound : ∀ i, i < 16 → 6 ≤ wheels.getD i 0 ∧ wheels.getD i 0 ≤ 200 := by decide
end Go.Proofs.YtljcjgliddhgkaaDoor
namespace Go.Proofs.YtljcjgliddhgkaaDoor
open Go.RowKit Ieee
open Go.Proofs.YtljcjgliddhgkaaDoorW.PrintWords
set_option maxRecDepth 100000
attribute [local irreducible] wpRel

def pairD (p : Int × Int × Nat) : Prop := (∃ a, a < 16 ∧ p.1 = wheels.getD a 0) ∧ (∃ b, b < 16 ∧ p.2.1 = wheels.getD b 0) ∧ isPt p.2.2
def drawn (ts : List (Int × Int × Nat)) : Prop := ∀ i, i < ts.length → pairD (ts.getD i zP)
theorem drawn_nil : drawn [] := fun i h => absurd h (Nat.not_lt_zero i)
theorem drawn_snoc {ts : List (Int × Int × Nat)} (h : drawn ts) {p : Int × Int × Nat} (hp : pairD p) : drawn (ts ++ [p]) := by
  intro i hi
  rw [List.getD_eq_getElem?_getD]
  by_cases hlt : i < ts.length
  · rw [List.getElem?_append_left hlt, ← List.getD_eq_getElem?_getD]; exact h i hlt
  · have : i = ts.length := by simp at hi; omega
    subst this
    simpa using hp
theorem pair_i16 {p : Int × Int × Nat} (h : pairD p) : i16B p.1 p.2.1 := by
  obtain ⟨⟨a, ha, e1⟩, ⟨b, hb, e2⟩, _⟩ := h
  have h1 := wheels_bound a ha
  have h2 := wheels_bound b hb
  unfold i16B
  omega
section
variable {ops : Array Oper} {rest : List Oper} {o : Oper} {a : Act} {Q : Exit → Act → World → Prop}
/-- append(v, x) of one pair, whichever base. -/
theorem apPb (base : Nat) {W : World} {r : Nat} {p q : Int} {z : Nat} (hgd : o.guard = none) (s x : Operand) (ho : o.op = .call { callee := .builtin .append, args := #[s, x], argTypes := #[43, 43] })
    (v : Value) (xs : List (Int × Int × Nat)) (hs : a.eval s = v) (hx : a.eval x = .slice (some ⟨W.heap.size, 0, none⟩) 1 1)
    (HO : RW kP 41 W base v xs) (hb : base ≤ W.heap.size) (hl : xs.length ≤ 1048576) (hp : i16B p q) (hr : FV r z)
    (h : ∀ v1 w1, RW kP 41 w1 base v1 (xs ++ [(p, q, z)]) → W.grownBy w1 v.ownBlock → (v1.ownBlock = v.ownBlock ∨ ∃ b, v1.ownBlock = some b ∧ W.heap.size ≤ b) → wpList Tryd.prog ops Q rest (a.put o.dst v1) w1) :
    wpList Tryd.prog ops Q (o :: rest) a (W.alloc (.cells #[.int .i16 p, .int .i16 q, .float .f32 r] 41)) :=
  Kd.R_append kP (w0 := W) base hgd s x 43 41 (.agg #[.int .i16 0, .int .i16 0, .float .f32 0]) 8 ho Tryd.underlying43 info_pair rfl (by decide) (by decide) v xs (p, q, z) [.int .i16 p, .int .i16 q, .float .f32 r] (fun _ => True) (fun _ => False) hs hx (kP_mkM _ _ _ hp hr) (fun _ h => h.elim) (fun _ _ => trivial) HO (Below.refl _ _) hb (by omega) fun v1 w1 h1 _ h2 h3 => h v1 w1 h1 h2 h3
end
def DrawnQ (most g m : Nat) (w : World) (e : Ending) (w' : World) : Prop :=
  ∃ v ts, e = .returned v ∧ RW kP 41 w' w.heap.size v ts ∧ 1 ≤ ts.length ∧ ts.length ≤ most ∧ drawn ts ∧ Gr g w w' ∧ Src w' g (m + 200)
end Go.Proofs.YtljcjgliddhgkaaDoor
namespace Go.Proofs.YtljcjgliddhgkaaDoor
open Go.RowKit Ieee
open Go.Proofs.YtljcjgliddhgkaaDoorW.PrintWords
set_option maxRecDepth 100000
attribute [local irreducible] wpRel

theorem f6big_any (A : Option Addr) (n c : Nat) (hn : n ≤ 9223372036854775807) (w : World) :
    Calls Tryd.prog 12 #[.slice A n c] w fun e w' => e = .returned (.bool (decide ((4096 : Int) < n))) ∧ w = w' := by
  go_enter Tryd.func12, Tryd.ntmps12
  go_wp2
  go_ret
  exact ⟨rfl, rfl⟩
def TrainQ (w : World) (e : Ending) (w' : World) : Prop :=
  ∃ v ts, e = .returned v ∧ RW kP 41 w' w.heap.size v ts ∧ 1 ≤ ts.length ∧ ts.length ≤ 4 ∧ drawn ts ∧ Below w.heap.size w w'
section
variable {ops : Array Oper} {rest : List Oper} {o : Oper} {a : Act} {Q : Exit → Act → World → Prop}
/-- append(v, x) of one float, whichever base. -/
theorem apFb (base : Nat) {W : World} {p r : Nat} (hgd : o.guard = none) (s x : Operand) (ho : o.op = .call { callee := .builtin .append, args := #[s, x], argTypes := #[64, 64] })
    (v : Value) (xs : List Nat) (hs : a.eval s = v) (hx : a.eval x = .slice (some ⟨W.heap.size, 0, none⟩) 1 1)
    (HO : RW kf 22 W base v xs) (hb : base ≤ W.heap.size) (hl : xs.length ≤ 1048576) (hp : FV r p)
    (h : ∀ v1 w1, RW kf 22 w1 base v1 (xs ++ [p]) → W.grownBy w1 v.ownBlock → (v1.ownBlock = v.ownBlock ∨ ∃ b, v1.ownBlock = some b ∧ W.heap.size ≤ b) → wpList Tryd.prog ops Q rest (a.put o.dst v1) w1) :
    wpList Tryd.prog ops Q (o :: rest) a (W.alloc (.cells #[.float .f32 r] 22)) :=
  Kd.R_append kf (w0 := W) base hgd s x 64 22 (.float .f32 0) 4 ho Tryd.underlying64 info_f32 rfl (by decide) (by decide) v xs p [.float .f32 r] (fun _ => True) (fun _ => False) hs hx ⟨r, rfl, hp⟩ (fun _ h => h.elim) (fun _ _ => trivial) HO (Below.refl _ _) hb (by omega) fun v1 w1 h1 _ h2 h3 => h v1 w1 h1 h2 h3
end
def isPts (ps : List Nat) : Prop := ∀ i, isPt (ps.getD i 0)
theorem isPts_nil : isPts [] := fun i => by show isPt 0; unfold isPt; omega
theorem isPts_snoc {ps : List Nat} (h : isPts ps) {x : Nat} (hx : isPt x) : isPts (ps ++ [x]) := by
  intro i
  rw [List.getD_eq_getElem?_getD]
  rcases Nat.lt_trichotomy i ps.length with hlt | rfl | hgt
  · rw [List.getElem?_append_left hlt, ← List.getD_eq_getElem?_getD]; exact h i
  · simpa using hx
  · rw [List.getElem?_eq_none (by simp; omega)]; show isPt 0; unfold isPt; omega
def PlaysQ (n : Nat) (w : World) (e : Ending) (w' : World) : Prop :=
  ∃ v ps, e = .returned v ∧ FR w' w.heap.size v ps ∧ ps.length = n ∧ isPts ps ∧ Below w.heap.size w w'
/-! ### what is drawn is valid -/
theorem wheels_good : ∀ a, a < 16 → ∀ b, b < 16 → (decide (0 < upV (wheels.getD a 0) (wheels.getD b 0)) && decide (upV (wheels.getD a 0) (wheels.getD b 0) < 2139095040)) = true := by decide +kernel
theorem drawn_ok {ts : List (Int × Int × Nat)} (h : drawn ts) (h1 : 1 ≤ ts.length) (h8 : ts.length ≤ 8) : trainOk ts = true := by
  unfold trainOk
  have hi : iin (ts.length : Int) 1 8 = true := by unfold iin; simp; omega
  rw [hi, Bool.true_and, List.all_eq_true]
  intro p hp
  obtain ⟨i, hi, rfl⟩ := List.getElem_of_mem hp
  have hd := h i hi
  rw [List.getD_eq_getElem?_getD, List.getElem?_eq_getElem hi] at hd
  obtain ⟨⟨a, ha, e1⟩, ⟨b, hb, e2⟩, e3⟩ := hd
  have h1 := wheels_bound a ha
  have h2 := wheels_bound b hb
  simp only [Option.getD_some] at e1 e2 e3
  rw [← e1] at h1
  rw [← e2] at h2
  unfold pairOk pairB
  rw [isPt_part e3]
  unfold iin
  simp
  omega
end Go.Proofs.YtljcjgliddhgkaaDoor
