/- Texts cut at one byte by the library. -/
import Derived.Test.YtdekolkngokmpaaDoorTxt
import Derived.Test.YtdekolkngokmpaaDoorKs
import Derived.Test.YtdekolkngokmpaaDoorSplA
import Derived.Test.YtdekolkngokmpaaDoorShelf
namespace Go.Proofs.YtdekolkngokmpaaDoor
open Go.RowKit Ieee
open Go.Proofs.YtdekolkngokmpaaDoorW.PrintWords
set_option maxRecDepth 100000
theorem splitB_one (c : UInt8) (s : ByteArray) : (Go.Lib.splitB ⟨#[c]⟩ 0 (Go.Lib.countB s ⟨#[c]⟩) s).map (·.data.toList) = splC c s.data.toList := by
  rw [Go.Lib.splitB_data]
  exact splitK_one c s.data.toList
theorem splC_len (c : UInt8) : ∀ l : List UInt8, (splC c l).length ≤ l.length + 1
  | [] => Nat.le_refl _
  | b :: l => by
    have ih := splC_len c l
    obtain ⟨h, t, e⟩ := splC_cons c l
    unfold splC
    split
    · simp only [List.length_cons]; omega
    · rw [e] at ih ⊢
      simp only [List.length_cons, List.tail_cons] at ih ⊢; omega
/-- A row of texts out of a block of them. -/
theorem kS_block (w : World) (xs : List ByteArray) (t : Nat) (n : Nat) (hn : xs.length = n) (h1 : 1 ≤ n) (hm : n ≤ 9223372036854775807) :
    Kd.C kS (w.alloc (.cells (xs.map Value.string).toArray t)) (some ⟨w.heap.size, 0, none⟩) n (xs.map (·.data.toList)) := by
  refine ⟨by rw [List.length_map]; exact hn, hm, fun _ => ⟨_, rfl, fun j p hj => ?_⟩⟩
  rw [List.getElem?_map] at hj
  obtain ⟨x, hx, hp⟩ := Option.map_eq_some_iff.1 hj
  subst hp
  refine ⟨[.string x], rfl, rfl, fun i u hu => ?_⟩
  obtain ⟨rfl, rfl⟩ : i = 0 ∧ u = .string x := by
    cases i with
    | zero => exact ⟨rfl, by simpa using hu.symm⟩
    | succ i => simp at hu
  rw [show (⟨w.heap.size, 0, none⟩ : Addr).add (j * kS.sz + 0) = ⟨w.heap.size, j, none⟩ from by show Addr.add _ (j * 1 + 0) = _; by_cases h0 : j = 0 <;> simp [Addr.add, h0]]
  rw [World.cell?_alloc_at _ _ _ _ rfl]
  simp [hx]
theorem split_any (c : UInt8) (s : ByteArray) (m : Int) (w : World) (hs : s.size ≤ 1048577) (hm : w.cell? ⟨1, 0, none⟩ = some (.int .i64 m)) :
    Calls Tryd.prog 20 #[.string s, .string ⟨#[c]⟩] w fun e w' => e = .returned (.slice (some ⟨w.heap.size, 0, none⟩) (splC c s.data.toList).length (splC c s.data.toList).length) ∧ Kd.C kS w' (some ⟨w.heap.size, 0, none⟩) (splC c s.data.toList).length (splC c s.data.toList) ∧ Below w.heap.size w w' := by
  refine (Tryd.strings_Split s ⟨#[c]⟩ m w (by omega) hm (Nat.le_refl 1)).mono ?_
  rintro e w' ⟨rfl, rfl⟩
  have hl : (splC c s.data.toList).length = Go.Lib.countB s ⟨#[c]⟩ + 1 := by
    rw [← splitB_one, List.length_map]
    exact Go.Lib.splitB_all ⟨#[c]⟩ (Nat.le_refl 1) 0 _ s rfl
  rw [hl]
  refine ⟨rfl, ?_, balloc (Below.refl _ _) _⟩
  have hk := kS_block w (Go.Lib.splitB ⟨#[c]⟩ 0 (Go.Lib.countB s ⟨#[c]⟩) s) 9 (Go.Lib.countB s ⟨#[c]⟩ + 1) (by rw [← hl, ← splitB_one, List.length_map]) (by omega) (by
    have := splC_len c s.data.toList
    rw [hl] at this
    have h2 : s.data.toList.length = s.size := rfl
    omega)
  rw [splitB_one] at hk
  exact hk
theorem getD_size {xs : List (List UInt8)} {j : Nat} {B : Nat} (h : ∀ x ∈ xs, x.length ≤ B) (hj : j < xs.length) : (⟨(xs.getD j []).toArray⟩ : ByteArray).size ≤ B := by
  have hm : xs.getD j [] ∈ xs := by
    rw [List.getD_eq_getElem?_getD, List.getElem?_eq_getElem hj]
    exact List.getElem_mem hj
  have := h _ hm
  show (xs.getD j []).toArray.size ≤ B
  simpa using this
end Go.Proofs.YtdekolkngokmpaaDoor
