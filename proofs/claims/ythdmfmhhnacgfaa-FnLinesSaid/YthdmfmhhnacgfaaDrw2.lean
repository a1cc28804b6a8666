/- Choices: numbers below a bound. -/
import Derived.Test.YthdmfmhhnacgfaaDrw
namespace Go.Proofs.Ythdmfmhhnacgfaa
open Go.RowKit Ieee
open Go.Proofs.YthdmfmhhnacgfaaW.PrintWords
set_option maxRecDepth 100000

def PickQ (n : Int) (g m : Nat) (w : World) (e : Ending) (w' : World) : Prop := ∃ v : Int, e = .returned (.int .i64 v) ∧ 0 ≤ v ∧ v < n ∧ Gr g w w' ∧ Src w' g (m + 2)
theorem Src.up {w : World} {g m m' : Nat} (h : Src w g m) (hm : m ≤ m') : Src w g m' := by
  obtain ⟨A, c, xs, k, sd, c0, c1, c2, f1, f2, hg, hk, hC⟩ := h
  exact ⟨A, c, xs, k, sd, c0, c1, c2, f1, f2, hg, by omega, hC⟩
theorem Src.lt {w : World} {g m : Nat} (h : Src w g m) : g < w.heap.size := by
  obtain ⟨A, c, xs, k, sd, c0, c1, c2, f1, f2, hg, hk, hC⟩ := h
  exact hg
theorem pick_any (g m : Nat) (n : Int) (w : World) (h : Src w g m) (hm : m ≤ 1000000000) (hn : 1 ≤ n) (hn2 : n ≤ 1000000000000) :
    Calls Try.prog 36 #[.pointer (some ⟨g, 0, none⟩), .int .i64 n] w (PickQ n g m w) := by
  have HS := Lib.hid h
  clear h
  by_cases h1 : n ≤ 1
  · go_enter Try.func36, Try.ntmps36
    go_wp2
    go_ret
    exact ⟨0, rfl, by omega, by omega, Gr.refl g w, HS.out.up (by omega)⟩
  by_cases h2 : 200 < n
  · go_enter Try.func36, Try.ntmps36
    go_wp2_with fail
    go_at_call 41
    refine (next_any g m _ HS.out (by omega)).mono ?_
    rintro e w1 ⟨x, rfl, hx0, hx1, hG1, hS1⟩
    replace hS1 := Lib.hid hS1
    go_wp2_with fail
    go_at_call 41
    refine (next_any g (m + 1) _ hS1.out (by omega)).mono ?_
    rintro e w2 ⟨y, rfl, hy0, hy1, hG2, hS2⟩
    replace hS2 := Lib.hid hS2
    go_wp2
    go_ret
    exact ⟨_, rfl, Int.emod_nonneg _ (by omega), Int.emod_lt_of_pos _ (by omega), hG1.then hG2, hS2.out⟩
  · go_enter Try.func36, Try.ntmps36
    go_wp2_with fail
    go_at_call 41
    refine (next_any g m _ HS.out (by omega)).mono ?_
    rintro e w1 ⟨x, rfl, hx0, hx1, hG1, hS1⟩
    replace hS1 := Lib.hid hS1
    go_wp2
    go_ret
    exact ⟨_, rfl, Int.emod_nonneg _ (by omega), Int.emod_lt_of_pos _ (by omega), hG1, hS1.out.up (by omega)⟩
def OneQ (g m : Nat) (w : World) (e : Ending) (w' : World) : Prop := ∃ v : Bool, e = .returned (.bool v) ∧ Gr g w w' ∧ Src w' g (m + 2)
/-- A source made of bytes. -/
theorem l00From_any (A : Option Addr) (c : Nat) (xs : List Int) (w : World) (hA : Kd.C kB w A xs.length xs) (hb : ∀ i, i < xs.length → 0 ≤ xs.getD i 0 ∧ xs.getD i 0 ≤ 255) (hl : xs.length ≤ 1048576) :
    Calls Try.prog 17 #[.slice A xs.length c] w fun e w' => e = .returned (.pointer (some ⟨w.heap.size, 0, none⟩)) ∧ Below w.heap.size w w' ∧ Src w' w.heap.size 0 := by
  go_enter Try.func17, Try.ntmps17
  go_wp2
  go_ret
  refine ⟨rfl, balloc (Below.refl _ _) _, A, c, xs, 0, 0, ?_, ?_, ?_, ?_, ?_, ?_, Nat.le_refl _, ⟨Kd.C_alloc hA _, ?_, hb, hl⟩⟩
  case refine_7 => intro ad he hn; exact Kd.C_lt (he ▸ hA) hn (by decide)
  all_goals go_simp
end Go.Proofs.Ythdmfmhhnacgfaa
