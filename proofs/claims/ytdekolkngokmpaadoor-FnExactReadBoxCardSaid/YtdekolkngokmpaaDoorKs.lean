/- Rows of texts. -/
import Derived.Test.YtdekolkngokmpaaDoorRow
import Derived.Test.YtdekolkngokmpaaDoorAp
import Derived.Lib.Strings
namespace Go.Proofs.YtdekolkngokmpaaDoor
open Go.RowKit Ieee
open Go.Proofs.YtdekolkngokmpaaDoorW.PrintWords
set_option maxRecDepth 100000
/-- A text in a row of texts. -/
def kS : Kd (List UInt8) where
  sz := 1
  E := []
  K := fun _ x cs => cs = [.string ⟨x.toArray⟩]
  M := fun _ _ _ x cs => cs = [.string ⟨x.toArray⟩]
  K_len := by rintro w x cs rfl; rfl
  K_one := by rintro w x cs rfl u hu; rw [List.mem_singleton.1 hu]; rfl
  K_below := fun _ h => h
  K_of_M := fun h => h
  M_mono := fun _ h => h
  M_bound := fun h => h
  M_move := fun _ h => h
  M_lower := fun _ h => h
section
variable {ops : Array Oper} {rest : List Oper} {o : Oper} {a : Act} {Q : Exit → Act → World → Prop}
theorem info_str : (Tryd.prog.info? 9).map (fun i => (i.zero, i.size, i.bytes)) = some (some (.string ByteArray.empty), 1, 16) := by kernel_rfl
/-- append(v, x) of one text, whichever base. -/
theorem apSb (base : Nat) {W : World} {z : List UInt8} (hgd : o.guard = none) (s x : Operand) (ho : o.op = .call { callee := .builtin .append, args := #[s, x], argTypes := #[32, 32] })
    (v : Value) (xs : List (List UInt8)) (hs : a.eval s = v) (hx : a.eval x = .slice (some ⟨W.heap.size, 0, none⟩) 1 1)
    (HO : RW kS 9 W base v xs) (hb : base ≤ W.heap.size) (hl : xs.length ≤ 1048576)
    (h : ∀ v1 w1, RW kS 9 w1 base v1 (xs ++ [z]) → W.grownBy w1 v.ownBlock → (v1.ownBlock = v.ownBlock ∨ ∃ b, v1.ownBlock = some b ∧ W.heap.size ≤ b) → wpList Tryd.prog ops Q rest (a.put o.dst v1) w1) :
    wpList Tryd.prog ops Q (o :: rest) a (W.alloc (.cells #[.string ⟨z.toArray⟩] 9)) :=
  Kd.R_append kS (w0 := W) base hgd s x 32 9 (.string ByteArray.empty) 16 ho Tryd.underlying32 info_str rfl (by decide) (by decide) v xs z [.string ⟨z.toArray⟩] (fun _ => True) (fun _ => False) hs hx rfl (fun _ h => h.elim) (fun _ _ => trivial) HO (Below.refl _ _) hb (by omega) fun v1 w1 h1 _ h2 h3 => h v1 w1 h1 h2 h3
end
section
variable {ops : Array Oper} {rest : List Oper} {o : Oper} {a : Act} {Q : Exit → Act → World → Prop}
/-- append(v, x) of one text as it stands. -/
theorem apSz (base : Nat) {W : World} {z : ByteArray} (hgd : o.guard = none) (s x : Operand) (ho : o.op = .call { callee := .builtin .append, args := #[s, x], argTypes := #[32, 32] })
    (v : Value) (xs : List (List UInt8)) (hs : a.eval s = v) (hx : a.eval x = .slice (some ⟨W.heap.size, 0, none⟩) 1 1)
    (HO : RW kS 9 W base v xs) (hb : base ≤ W.heap.size) (hl : xs.length ≤ 1048576)
    (h : ∀ v1 w1, RW kS 9 w1 base v1 (xs ++ [z.data.toList]) → W.grownBy w1 v.ownBlock → (v1.ownBlock = v.ownBlock ∨ ∃ b, v1.ownBlock = some b ∧ W.heap.size ≤ b) → wpList Tryd.prog ops Q rest (a.put o.dst v1) w1) :
    wpList Tryd.prog ops Q (o :: rest) a (W.alloc (.cells #[.string z] 9)) :=
  apSb base (z := z.data.toList) hgd s x ho v xs hs hx HO hb hl h
end
/-- One text of a row. -/
theorem at_kS {w : World} {A : Option Addr} {n : Nat} {xs : List (List UInt8)} (h : Kd.C kS w A n xs) (j : Nat) (hj : j < n) :
    ∃ b off, A = some ⟨b, off, none⟩ ∧ b < w.heap.size ∧ w.cell? ⟨b, off + j, none⟩ = some (.string ⟨(xs.getD j []).toArray⟩) := by
  obtain ⟨b, off, cs, e, hb, _, hK, hc⟩ := C_at h (show 0 < kS.sz by decide) [] j hj
  have hK' : cs = [.string ⟨(xs.getD j []).toArray⟩] := hK
  subst hK'
  have h1 := hc 0 _ rfl
  rw [show off + j * kS.sz + 0 = off + j from by show off + j * 1 + 0 = _; omega] at h1
  exact ⟨b, off, e, hb, h1⟩
end Go.Proofs.YtdekolkngokmpaaDoor
