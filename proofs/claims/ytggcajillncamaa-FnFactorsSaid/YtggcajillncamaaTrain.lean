/- Valid trains: the reference's and the program's test. -/
import Derived.Test.YtggcajillncamaaPair
namespace Go.Proofs.Ytggcajillncamaa
open Go.RowKit Ieee
open Go.Proofs.YtggcajillncamaaW.PrintWords
set_option maxRecDepth 100000

def pairB (a b : Int) (x : Nat) : Bool := iin a 6 200 && iin b 6 200 && part x
def pairOk (p : Int × Int × Nat) : Bool := pairB p.1 p.2.1 p.2.2
def trainOk (l : List (Int × Int × Nat)) : Bool := iin l.length 1 8 && l.all pairOk
theorem fle_vr {r x c : Nat} (h : FV r x) (hc : cn c = c) : fle c r = fle c x := by rw [← fle_cn c r, hc, h.1]
theorem fle_vl {r x c : Nat} (h : FV r x) (hc : cn c = c) : fle r c = fle x c := by rw [← fle_cn r c, hc, h.1]
theorem fin_v {r x a b : Nat} (h : FV r x) (ha : cn a = a) (hb : cn b = b) : fin a b r = fin a b x := by unfold fin; rw [fle_vr h ha, fle_vl h hb]
theorem part_v {r x : Nat} (h : FV r x) : part r = part x := fin_v h (by decide) (by decide)
theorem take_all_succ {α : Type} {p : α → Bool} {l : List α} {z : α} {k : Nat} (hk : k < l.length) (h : (l.take k).all p = true) (hz : p (l.getD k z) = true) : (l.take (k + 1)).all p = true := by
  rw [List.take_succ_eq_append_getElem hk, List.all_append, h]
  rw [List.getD_eq_getElem?_getD, List.getElem?_eq_getElem hk] at hz
  simpa using hz
theorem all_false {α : Type} {p : α → Bool} {l : List α} {z : α} {k : Nat} (hk : k < l.length) (hz : p (l.getD k z) = false) : l.all p = false := by
  rw [List.getD_eq_getElem?_getD, List.getElem?_eq_getElem hk] at hz
  rw [List.all_eq_false]
  exact ⟨l[k], List.getElem_mem hk, by simpa using hz⟩
theorem l01Teeth_any (n : Int) (w : World) :
    Calls Try.prog 51 #[.int .i64 n] w fun e w' => e = .returned (.bool (iin n 6 200)) ∧ w = w' := by
  go_enter Try.func51, Try.ntmps51
  go_wp2_with (go_at_call 52; refine (l00In_any _ _ _ _).mono ?_; rintro e w' ⟨rfl, rfl⟩)
  go_ret
  exact ⟨rfl, rfl⟩
theorem areTeeth_any (n : Int) (w : World) :
    Calls Try.prog 45 #[.int .i64 n] w fun e w' => e = .returned (.bool (iin n 6 200)) ∧ w = w' := by
  go_enter Try.func45, Try.ntmps45
  go_wp2_with (go_at_call 46; refine (within_any _ _ _ _).mono ?_; rintro e w' ⟨rfl, rfl⟩)
  go_ret
  exact ⟨rfl, rfl⟩
/-- What an index that is looked for answers: not less than 0 just where there is one. -/
def IdxQ (b : Bool) (w : World) (e : Ending) (w' : World) : Prop := ∃ i : Int, e = .returned (.int .i64 i) ∧ decide (0 ≤ i) = b ∧ Below w.heap.size w w'
end Go.Proofs.Ytggcajillncamaa
