/- Arguments opened: what the cells of a plain type hold, and a slice's rows. -/
import Derived.Test.YtggcajillncamaaIe
import Derived.Test.YtggcajillncamaaRows
import Derived.ProofKit
import Derived.OpenShut
import Derived.Deep.Slices
namespace Go.Proofs.Ytggcajillncamaa
open Go.RowKit Go.ChangeShapes Go.WideShapes Go.ChangeAt Go.Deep Ieee

def isF (v : Value) : Prop := ∃ b, v = .float .f32 b ∧ b < 4294967296
def isI (k : IntKind) (v : Value) : Prop := ∃ n, v = .int k n ∧ (Lit.int k n).wf = true
def isB (v : Value) : Prop := ∃ b, v = .bool b
/-- cell by cell -/
def Cells : List (Value → Prop) → List Value → Prop
  | [], vs => vs = []
  | p :: ps, vs => ∃ v r, vs = v :: r ∧ p v ∧ Cells ps r
theorem Cells.append {ps qs : List (Value → Prop)} : ∀ {vs ws : List Value}, Cells ps vs → Cells qs ws → Cells (ps ++ qs) (vs ++ ws) := by
  induction ps with
  | nil => intro vs ws h k; cases h; exact k
  | cons p ps ih =>
    intro vs ws h k
    obtain ⟨v, r, rfl, hp, hr⟩ := h
    exact ⟨v, r ++ ws, rfl, hp, ih hr k⟩
theorem Cells.length {ps : List (Value → Prop)} : ∀ {vs : List Value}, Cells ps vs → vs.length = ps.length := by
  induction ps with
  | nil => intro vs h; cases h; rfl
  | cons p ps ih => intro vs h; obtain ⟨v, r, rfl, _, hr⟩ := h; simp [ih hr]

section
variable {H : Type} {enc : TypeId × Value → H} {P : Program} {w : World} {base : Nat} {spare : Nat → Bool} {held : Bool} {fuel : Nat} {cs : List Value} {x : DataW H × List MemPlace}
theorem cells_f32 {t : TypeId} (ht : P.underlying t = some (.float .f32)) (h : DataW.trod enc P w base spare held fuel t cs = some x) : Cells [isF] cs := by
  cases fuel with
  | zero => simp [DataW.trod] at h
  | succ n =>
    unfold DataW.trod at h
    rw [ht] at h
    split at h <;> first | (simp_all; done) | skip
    all_goals rename_i heq
    all_goals first | (cases heq; done) | skip
    cases heq
    split at h
    · rename_i hk
      obtain ⟨rfl, hw⟩ := hk
      exact ⟨_, _, rfl, ⟨_, rfl, by simpa [Lit.wf] using hw⟩, rfl⟩
    · cases h
theorem cells_int {k : IntKind} {t : TypeId} (ht : P.underlying t = some (.int k)) (h : DataW.trod enc P w base spare held fuel t cs = some x) : Cells [isI k] cs := by
  obtain ⟨n, rfl, _, hw⟩ := DataW.trod_int ht h
  exact ⟨_, _, rfl, ⟨n, rfl, hw⟩, rfl⟩
theorem cells_bool {t : TypeId} (ht : P.underlying t = some .bool) (h : DataW.trod enc P w base spare held fuel t cs = some x) : Cells [isB] cs := by
  obtain ⟨b, rfl, _⟩ := DataW.trod_bool ht h
  exact ⟨_, _, rfl, ⟨b, rfl⟩, rfl⟩

/-- What stands between two places of a list. -/
theorem cut_list (cs : List Value) (a b c : Nat) (h : c = a + b) : (cs.drop a).take b ++ cs.drop c = cs.drop a := by
  subst h
  rw [← List.drop_drop, List.take_append_drop]

theorem cells_array2 {t e : TypeId} {p : Value → Prop} (ht : P.underlying t = some (.array 2 e)) (hT : P.cellsOf t = 2) (hE : P.cellsOf e = 1)
    (he : ∀ (fuel : Nat) (cs : List Value) (y : DataW H × List MemPlace), DataW.trod enc P w base spare held fuel e cs = some y → Cells [p] cs)
    (h : DataW.trod enc P w base spare held fuel t cs = some x) : Cells [p, p] cs := by
  obtain ⟨xs, m, rfl, _, hl, hxl, hf⟩ := DataW.trod_array ht h
  have h0 := hf 0 (by omega)
  have h1 := hf 1 (by omega)
  rw [hT] at hl
  rw [hE, List.getElem?_eq_getElem (by omega)] at h0 h1
  have e0 := he _ _ _ h0
  have e1 := he _ _ _ h1
  match cs, hl with
  | [a, b], _ => exact e0.append e1
theorem cells_array8 {t e : TypeId} {p : Value → Prop} (ht : P.underlying t = some (.array 8 e)) (hT : P.cellsOf t = 8) (hE : P.cellsOf e = 1)
    (he : ∀ (fuel : Nat) (cs : List Value) (y : DataW H × List MemPlace), DataW.trod enc P w base spare held fuel e cs = some y → Cells [p] cs)
    (h : DataW.trod enc P w base spare held fuel t cs = some x) : Cells [p, p, p, p, p, p, p, p] cs := by
  obtain ⟨xs, m, rfl, _, hl, hxl, hf⟩ := DataW.trod_array ht h
  have h0 := hf 0 (by omega)
  have h1 := hf 1 (by omega)
  have h2 := hf 2 (by omega)
  have h3 := hf 3 (by omega)
  have h4 := hf 4 (by omega)
  have h5 := hf 5 (by omega)
  have h6 := hf 6 (by omega)
  have h7 := hf 7 (by omega)
  rw [hT] at hl
  rw [hE, List.getElem?_eq_getElem (by omega)] at h0 h1 h2 h3 h4 h5 h6 h7
  have e0 := he _ _ _ h0
  have e1 := he _ _ _ h1
  have e2 := he _ _ _ h2
  have e3 := he _ _ _ h3
  have e4 := he _ _ _ h4
  have e5 := he _ _ _ h5
  have e6 := he _ _ _ h6
  have e7 := he _ _ _ h7
  match cs, hl with
  | [a0, a1, a2, a3, a4, a5, a6, a7], _ => exact ((((((e0.append e1).append e2).append e3).append e4).append e5).append e6).append e7
theorem cells_struct2 {t : TypeId} {f0 f1 : Field} {p q : List (Value → Prop)} (ht : P.underlying t = some (.struct #[f0, f1])) (hT : P.cellsOf t = p.length + q.length)
    (o0 : f0.offset = 0) (o1 : f1.offset = p.length) (c0 : P.cellsOf f0.type = p.length) (c1 : P.cellsOf f1.type = q.length)
    (h0 : ∀ (fuel : Nat) (cs : List Value) (y : DataW H × List MemPlace), DataW.trod enc P w base spare held fuel f0.type cs = some y → Cells p cs)
    (h1 : ∀ (fuel : Nat) (cs : List Value) (y : DataW H × List MemPlace), DataW.trod enc P w base spare held fuel f1.type cs = some y → Cells q cs)
    (h : DataW.trod enc P w base spare held fuel t cs = some x) : Cells (p ++ q) cs := by
  obtain ⟨xs, m, rfl, _, hl, hxl, hf⟩ := DataW.trod_struct ht h
  have hxl' : xs.length = 2 := hxl
  have g0 := hf 0 f0 rfl
  have g1 := hf 1 f1 rfl
  rw [List.getElem?_eq_getElem (by omega)] at g0 g1
  have e0 := h0 _ _ _ g0
  have e1 := h1 _ _ _ g1
  rw [o0, c0] at e0
  rw [o1, c1] at e1
  have := e0.append e1
  rwa [List.take_of_length_le (l := List.drop p.length cs) (by simp; omega), List.drop_zero, List.take_append_drop] at this
theorem cells_struct3 {t : TypeId} {f0 f1 f2 : Field} {p q s : List (Value → Prop)} (ht : P.underlying t = some (.struct #[f0, f1, f2])) (hT : P.cellsOf t = p.length + q.length + s.length)
    (o0 : f0.offset = 0) (o1 : f1.offset = p.length) (o2 : f2.offset = p.length + q.length) (c0 : P.cellsOf f0.type = p.length) (c1 : P.cellsOf f1.type = q.length) (c2 : P.cellsOf f2.type = s.length)
    (h0 : ∀ (fuel : Nat) (cs : List Value) (y : DataW H × List MemPlace), DataW.trod enc P w base spare held fuel f0.type cs = some y → Cells p cs)
    (h1 : ∀ (fuel : Nat) (cs : List Value) (y : DataW H × List MemPlace), DataW.trod enc P w base spare held fuel f1.type cs = some y → Cells q cs)
    (h2 : ∀ (fuel : Nat) (cs : List Value) (y : DataW H × List MemPlace), DataW.trod enc P w base spare held fuel f2.type cs = some y → Cells s cs)
    (h : DataW.trod enc P w base spare held fuel t cs = some x) : Cells (p ++ (q ++ s)) cs := by
  obtain ⟨xs, m, rfl, _, hl, hxl, hf⟩ := DataW.trod_struct ht h
  have hxl' : xs.length = 3 := hxl
  have g0 := hf 0 f0 rfl
  have g1 := hf 1 f1 rfl
  have g2 := hf 2 f2 rfl
  rw [List.getElem?_eq_getElem (by omega)] at g0 g1 g2
  have e0 := h0 _ _ _ g0
  have e1 := h1 _ _ _ g1
  have e2 := h2 _ _ _ g2
  rw [o0, c0] at e0
  rw [o1, c1] at e1
  rw [o2, c2] at e2
  have := e0.append (e1.append e2)
  rwa [List.take_of_length_le (l := List.drop (p.length + q.length) cs) (by simp; omega), ← List.drop_drop, List.take_append_drop, List.drop_zero, List.take_append_drop] at this

/-- A slice of rows, each of cells as told. -/
theorem open_rows {t e : TypeId} {r : Reach} {b0 : Nat} {v : Value} {d : DataW H} {p : List MemPlace} {ps : List (Value → Prop)} (ht : P.underlying t = some (.slice e)) (hsz : P.cellsOf e = ps.length) (hpos : 0 < ps.length)
    (hcells : ∀ (fuel : Nat) (cs : List Value) (y : DataW H × List MemPlace), DataW.trod enc P w base spare held fuel e cs = some y → Cells ps cs)
    (hv : Value.okWide P w r b0 t v) (h : DataW.Trod enc P w base spare held t v d p) :
    ∃ A n c, ∃ rows : Nat → List Value, v = .slice A n c ∧ n ≤ c ∧ c ≤ maxLen ∧ (A = none → n = 0 ∧ c = 0) ∧ (∀ i, i < n → Cells ps (rows i)) ∧ Rd w A n ps.length (fun i j => (rows i).getD j undef) := by
  obtain ⟨A, n, c, rfl⟩ := okWide_slice ht hv
  obtain ⟨fuel, hf⟩ := h
  rcases open_slice ht hf with ⟨hcs, _⟩ | ⟨a, len, cap, m, k, D, Pl, hcs, _, hl, hm, hmm, _, hi⟩
  · simp [Value.cells] at hcs
    obtain ⟨rfl, rfl, rfl⟩ := hcs
    exact ⟨none, 0, 0, fun _ => [], rfl, Nat.le_refl _, Nat.zero_le _, fun _ => ⟨rfl, rfl⟩, fun i hi => absurd hi (by omega), Rd.zero⟩
  · simp [Value.cells] at hcs
    obtain ⟨rfl, rfl, rfl⟩ := hcs
    have hnm : n ≤ m := by rw [hmm]; split <;> omega
    have hrow : ∀ i, ∃ cs', i < n → w.cells? base (a.add (i * P.cellsOf e)) (P.cellsOf e) = some cs' ∧ Cells ps cs' := fun i => by
      by_cases hin : i < n
      · obtain ⟨cs', h1, h2⟩ := hi i (by omega)
        exact ⟨cs', fun _ => ⟨h1, hcells _ _ _ h2⟩⟩
      · exact ⟨[], fun h => absurd h hin⟩
    refine ⟨some a, n, c, fun i => Classical.choose (hrow i), rfl, hl, hm, (fun h => nomatch h), fun i hin => (Classical.choose_spec (hrow i) hin).2, fun hn => ?_⟩
    have hcell : ∀ i, i < n → ∀ j, j < ps.length → w.cell? ((a.add (i * ps.length)).add j) = some ((Classical.choose (hrow i)).getD j undef) := fun i hin j hj => by
      obtain ⟨h1, h2⟩ := Classical.choose_spec (hrow i) hin
      generalize Classical.choose (hrow i) = cs at h1 h2 ⊢
      rw [hsz] at h1
      obtain ⟨_, hlen, hc⟩ := World.cells?_some h1
      rw [hc j hj, List.getElem?_eq_getElem (by omega), List.getD_eq_getElem?_getD, List.getElem?_eq_getElem (by omega)]
      rfl
    have h0 := hcell 0 hn 0 hpos
    obtain ⟨b, off, spot⟩ := a
    have hspot : spot = none := by simpa [Addr.add] using World.cell?_spot h0
    subst hspot
    have hadd : ∀ i j, ((⟨b, off, none⟩ : Addr).add i).add j = ⟨b, off + i + j, none⟩ := fun i j => by
      unfold Addr.add
      by_cases hi : i = 0 <;> by_cases hj : j = 0 <;> simp [hi, hj]
    refine ⟨b, off, rfl, ?_, fun i hin j hj => by rw [← hadd]; exact hcell i hin j hj⟩
    have := block_lt_of_cell h0
    simpa [Addr.add] using this
end
end Go.Proofs.Ytggcajillncamaa
