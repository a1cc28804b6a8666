/- Play along a train: contracts. -/
import Derived.Test.YtggcajillncamaaTrain
namespace Go.Proofs.Ytggcajillncamaa
open Go.RowKit Ieee
open Go.Proofs.YtggcajillncamaaW.PrintWords
set_option maxRecDepth 100000

@[go_sem high] theorem conv_fi16 {P : Program} (w : World) (src dst : TypeId) (n : Int) (hs : (P.underlying src).isSome = true) (hd : P.underlying dst = some (.float .f32)) :
    (convert src dst (.int .i16 n)).run P w = .ok (.float .f32 (fi n)) w := run_convert_int_float w src dst .i16 .f32 n hs hd
theorem cn_fi (n : Int) : cn (fi n) = fi n := cn_of_not (fi_isn n)
def upV (p q : Int) : Nat := fdiv (fi p) (fi q)
def UpQ (p q : Int) (w : World) (e : Ending) (w' : World) : Prop := ∃ r, e = .returned (.float .f32 r) ∧ FV r (upV p q) ∧ Drew w w'
/-- A float of a value, whichever word. -/
def DFv (x : Nat) : Option Tmp → Value → Prop := fun _ v => ∃ r, v = .float .f32 r ∧ FV r x

theorem quotient_any (p q : Int) (w : World) :
    Calls Try.prog 53 #[.int .i16 p, .int .i16 q] w (UpQ p q w) := by
  go_enter Try.func53, Try.ntmps53
  go_wp2_with (refine wpList_fop (o := ⟨some 9, _, _, _, _, _⟩) rfl rfl (by first | exact .inl rfl | exact .inr (.inl rfl) | exact .inr (.inr (.inl rfl)) | exact .inr (.inr (.inr rfl))) rfl rfl ?_; intro r9 n9 h9)
  have hv : FV r9 (upV p q) := by rw [cn_fi, cn_fi] at h9; exact h9
  go_ret
  exact ⟨r9, rfl, hv, Drew.mk _ _⟩
/-! ### plays that are as told -/
def playsOk (n : Nat) (ps : List Nat) : Bool := decide (ps.length = n) && ps.all part
end Go.Proofs.Ytggcajillncamaa
