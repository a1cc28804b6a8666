/- Rows of elements of a kind, opened; single floats as a kind: a word of a value. -/
import Derived.Test.YtggcajillncamaaWWords
import Derived.Test.YtggcajillncamaaOpen
namespace Go.Proofs.Ytggcajillncamaa
open Go.RowKit Go.ChangeShapes Go.WideShapes Go.ChangeAt Go.Deep Ieee
open Go.Proofs.YtggcajillncamaaW.PrintWords

theorem C_of_rows {α : Type} (k : Kd α) {sz : Nat} (hk : k.sz = sz) {w : World} {A : Option Addr} {n : Nat} {rows : Nat → List Value} (hm : n ≤ 9223372036854775807)
    (hK : ∀ i, i < n → ∃ x, k.K w x (rows i)) (rd : Rd w A n sz (fun i j => (rows i).getD j undef)) : ∃ xs : List α, xs.length = n ∧ k.C w A xs.length xs := by
  refine ⟨List.ofFn (n := n) (fun i => Classical.choose (hK i.1 i.2)), List.length_ofFn, ?_⟩
  rw [List.length_ofFn]
  refine ⟨List.length_ofFn, hm, fun hn => ?_⟩
  obtain ⟨b, off, e, hb, hc⟩ := rd hn
  refine ⟨_, e, fun j p hj => ?_⟩
  have hjn : j < n := by have := (List.getElem?_eq_some_iff.1 hj).1; simpa using this
  have hp : p = Classical.choose (hK j hjn) := by
    have := (List.getElem?_eq_some_iff.1 hj).2
    rw [List.getElem_ofFn] at this
    exact this.symm
  have hx := Classical.choose_spec (hK j hjn)
  rw [← hp] at hx
  have hlen : (rows j).length = sz := (k.K_len hx).trans hk
  refine ⟨rows j, k.K_len hx, hx, fun i u hu => ?_⟩
  have hi : i < sz := by have := (List.getElem?_eq_some_iff.1 hu).1; omega
  have h1 := hc j hjn i hi
  have h2 : (rows j).getD i undef = u := by rw [List.getD_eq_getElem?_getD, hu]; rfl
  simp only [h2] at h1
  have ha : (⟨b, off, none⟩ : Addr).add (j * k.sz + i) = ⟨b, off + j * sz + i, none⟩ := by
    rw [hk]
    unfold Addr.add
    by_cases h0 : j * sz + i = 0
    · rw [if_pos h0]; congr 1; omega
    · rw [if_neg h0]; simp; omega
  rw [ha]
  exact h1

/-- The cells of element i, its place written out. -/
theorem C_at {α : Type} {k : Kd α} {w : World} {A : Option Addr} {n : Nat} {xs : List α} (h : Kd.C k w A n xs) (hsz : 0 < k.sz) (z : α) (i : Nat) (hi : i < n) :
    ∃ b off c, A = some ⟨b, off, none⟩ ∧ b < w.heap.size ∧ c.length = k.sz ∧ k.K w (xs.getD i z) c ∧ ∀ j u, c[j]? = some u → w.cell? ⟨b, off + i * k.sz + j, none⟩ = some u := by
  obtain ⟨ad, c, e, hl, hK, hc⟩ := Kd.C_get h z (i : Int) (by omega) (by omega)
  obtain ⟨ad', c', e', hl', _, hc'⟩ := Kd.C_get h z (0 : Int) (by omega) (by omega)
  rw [Int.toNat_natCast] at hc hK
  have h0 := hc 0 _ (List.getElem?_eq_getElem (by omega))
  have h0' := hc' 0 _ (List.getElem?_eq_getElem (by omega))
  rw [e] at e'
  injection e' with e'
  subst e'
  obtain ⟨b, off, spot⟩ := ad
  have hspot : spot = none := by simpa [Addr.add] using World.cell?_spot h0'
  subst hspot
  have hadd : ∀ j, (⟨b, off, none⟩ : Addr).add j = ⟨b, off + j, none⟩ := fun j => by
    unfold Addr.add
    by_cases hj : j = 0 <;> simp [hj]
  refine ⟨b, off, c, e, ?_, hl, hK, fun j u hu => ?_⟩
  · have := block_lt_of_cell h0
    rw [hadd] at this
    exact this
  · have := hc j u hu
    rw [hadd, ← Nat.add_assoc] at this
    exact this
/-- A single float: a word of the value. -/
def kf : Kd Nat where
  sz := 1
  E := []
  K := fun _ x cs => ∃ r, cs = [.float .f32 r] ∧ FV r x
  M := fun _ _ _ x cs => ∃ r, cs = [.float .f32 r] ∧ FV r x
  K_len := by rintro w x cs ⟨r, rfl, _⟩; rfl
  K_one := by rintro w x cs ⟨r, rfl, _⟩ u hu; rw [List.mem_singleton.1 hu]; rfl
  K_below := fun _ h => h
  K_of_M := fun h => h
  M_mono := fun _ h => h
  M_bound := fun h => h
  M_move := fun _ h => h
  M_lower := fun _ h => h
end Go.Proofs.Ytggcajillncamaa
