/- The law FnExactCountChanges: its argument opened, its walk. -/
import Derived.Test.YtegplbjgoodokaaCount
import Derived.Test.YtegplbjgoodokaaKd
namespace Go.Proofs.Ytegplbjgoodokaa
open Go.RowKit Go.ChangeShapes Go.WideShapes Go.ChangeAt Go.Deep Ieee
open Go.Proofs.YtegplbjgoodokaaW.PrintWords
open Go.Proofs.Ytegplbjgoodokaa.PFnExactCountChanges (S63 k63)
set_option maxRecDepth 100000
section
variable {H : Type} {enc : TypeId × Value → H} {w : World} {base : Nat} {spare : Nat → Bool} {held : Bool} {fuel : Nat} {cs : List Value} {x : DataW H × List MemPlace}
theorem cells_change (h : DataW.trod enc Try.prog w base spare held fuel 63 cs = some x) : Cells [isI .i16, isI .i8, isB] cs :=
  cells_struct3 (p := [isI .i16]) (q := [isI .i8]) (s := [isB]) Try.underlying63 (by kernel_rfl) rfl rfl rfl (by kernel_rfl) (by kernel_rfl) (by kernel_rfl)
    (fun _ _ _ => cells_int Try.underlying59) (fun _ _ _ => cells_int Try.underlying24) (fun _ _ _ => cells_bool Try.underlying4) h
theorem open_changes {r : Reach} {b0 : Nat} {v : Value} {d : DataW H} {p : List MemPlace} (hv : Value.okWide Try.prog w r b0 39 v) (h : DataW.Trod enc Try.prog w base spare held 39 v d p) :
    ∃ A c, ∃ ps : List S63, v = .slice A ps.length c ∧ ps.length ≤ c ∧ c ≤ maxLen ∧ (A = none → ps.length = 0 ∧ c = 0) ∧ Kd.C k63 w A ps.length ps := by
  obtain ⟨A, n, c, rows, rfl, hnc, hcm, hnone, hcells, hrd⟩ := open_rows (ps := [isI .i16, isI .i8, isB]) Try.underlying39 (by kernel_rfl) (by decide) (fun _ _ _ => cells_change) hv h
  obtain ⟨xs, hl, hx⟩ := C_of_rows k63 (sz := 3) rfl (by unfold maxLen at hcm; omega) (fun i hi => by
    obtain ⟨_, _, e, ⟨a, rfl, _⟩, _, _, rfl, ⟨b, rfl, _⟩, _, _, rfl, ⟨q, rfl⟩, rfl⟩ := hcells i hi
    exact ⟨⟨a, b, q⟩, by rw [e]; exact Go.Proofs.Ytegplbjgoodokaa.PFnExactCountChanges.k63_mk w ⟨a, b, q⟩⟩) hrd
  subst hl
  exact ⟨A, c, xs, rfl, hnc, hcm, hnone, hx⟩
end
theorem law_countChanges (A : Option Addr) (c : Nat) (ps : List S63) (lc : ps.length ≤ c) (lm : c ≤ maxLen) (_ : A = none → ps.length = 0 ∧ c = 0) (w : World) (hr : Kd.C k63 w A ps.length ps) :
    Calls Try.prog 7 #[.slice A ps.length c] w fun e w' => e = .returned (.bool true) ∧ Below w.heap.size w w' := by
  obtain ⟨k, hk⟩ := Go.Proofs.Ytegplbjgoodokaa.PFnExactCountChanges.pure ps (by unfold maxLen at lm; omega)
  exact Go.Proofs.Ytegplbjgoodokaa.PFnExactCountChanges.laws_FnExactCountChanges.calls k A c ps true w hr lc hk
end Go.Proofs.Ytegplbjgoodokaa
