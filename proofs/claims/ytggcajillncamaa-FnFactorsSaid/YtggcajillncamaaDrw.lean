/- Choices that are drawn from bytes. Choices: numbers below a bound. -/
import Derived.Test.YtggcajillncamaaGrG
import Derived.Test.YtggcajillncamaaWAt
import Derived.BigQuiet
import Derived.Deep.QuietTactic
import Derived.IntWalk
import Derived.Lib.VarintBits
namespace Go.Proofs.Ytggcajillncamaa
open Go.RowKit Ieee
open Go.Proofs.YtggcajillncamaaW.PrintWords
set_option maxRecDepth 100000

def kB : Kd Int := Kd.int .u8
theorem Gr.keep {g : Nat} {w w' : World} (h : Gr g w w') : KeepBut w w' g none :=
  ⟨World.grownBy.size h, fun i hi hne _ => World.grownBy.block h i hi (fun he => hne (by injection he))⟩
/-- A row of bytes that lies elsewhere than in block g. -/
structure Code (W : World) (g : Nat) (A : Option Addr) (xs : List Int) : Prop where
  row : Kd.C kB W A xs.length xs
  far : ∀ ad, A = some ad → 0 < xs.length → ad.block < g
  bound : ∀ i, i < xs.length → 0 ≤ xs.getD i 0 ∧ xs.getD i 0 ≤ 255
  len : xs.length ≤ 1048576
/-- A source of choices, at most m drawn. -/
def Src (W : World) (g : Nat) (m : Nat) : Prop :=
  ∃ (A : Option Addr) (c : Nat) (xs : List Int) (k : Nat) (sd : Int), W.cell? ⟨g, 0, none⟩ = some (.slice A xs.length c) ∧ W.cell? ⟨g, 1, none⟩ = some (.int .i64 (k : Int)) ∧ W.cell? ⟨g, 2, none⟩ = some (.int .u64 sd) ∧
    W.frozen? ⟨g, 1, none⟩ = false ∧ W.frozen? ⟨g, 2, none⟩ = false ∧ g < W.heap.size ∧ k ≤ m ∧ Code W g A xs
def NextQ (g m : Nat) (w : World) (e : Ending) (w' : World) : Prop := ∃ v : Int, e = .returned (.int .i64 v) ∧ 0 ≤ v ∧ v ≤ 255 ∧ Gr g w w' ∧ Src w' g (m + 1)
theorem at_code {W : World} {g : Nat} {A : Option Addr} {xs : List Int} (h : Code W g A xs) (i : Nat) (hi : i < xs.length) :
    ∃ b off, A = some ⟨b, off, none⟩ ∧ W.cell? ⟨b, off + i, none⟩ = some (.int .u8 (xs.getD i 0)) ∧ b ≠ g := by
  obtain ⟨b, off, cs, e, hb, _, hK, hc⟩ := C_at h.row (show 0 < kB.sz by decide) 0 i hi
  have hK' : cs = [.int .u8 (xs.getD i 0)] := hK
  subst hK'
  have := hc 0 _ rfl
  exact ⟨b, off, e, by rw [show off + i = off + i * kB.sz + 0 from by show _ = off + i * 1 + 0; omega]; exact this, Nat.ne_of_lt (h.far _ e (by omega))⟩
theorem Code.gr {w W : World} {g : Nat} {A : Option Addr} {xs : List Int} (h : Code w g A xs) (hG : Gr g w W) : Code W g A xs :=
  ⟨Go.Proofs.YtggcajillncamaaW.PrintWords.Kd.C_foot_ne (fun h => h) h.row (fun ad he hn => Nat.ne_of_lt (h.far ad he hn)) W hG.keep, h.far, h.bound, h.len⟩
theorem src_mk {w W : World} {g m k c : Nat} {A : Option Addr} {xs : List Int} {sd : Int} (hk : k ≤ m) (hg : g < w.heap.size) (h : Code w g A xs) (hG : Gr g w W)
    (c0 : W.cell? ⟨g, 0, none⟩ = some (.slice A xs.length c)) (c1 : W.cell? ⟨g, 1, none⟩ = some (.int .i64 ((k : Int) + 1))) (c2 : W.cell? ⟨g, 2, none⟩ = some (.int .u64 sd))
    (f1 : W.frozen? ⟨g, 1, none⟩ = false) (f2 : W.frozen? ⟨g, 2, none⟩ = false) : Src W g (m + 1) :=
  ⟨A, c, xs, k + 1, sd, c0, c1, c2, f1, f2, Nat.lt_of_lt_of_le hg hG.size, by omega, h.gr hG⟩
theorem and255 (y : Int) : 0 ≤ wrap64 (bits .and .u64 (IntKind.u64.wrap y / 1099511627776) 255) ∧ wrap64 (bits .and .u64 (IntKind.u64.wrap y / 1099511627776) 255) ≤ 255 := by
  have h := wraps_u64 y
  have e : bits .and .u64 (IntKind.u64.wrap y / 1099511627776) 255 = (IntKind.u64.wrap y / 1099511627776) % 256 := bits_mask .u64 64 (by decide) wraps_u64 8 (by decide) _ (by rw [IntKind.wrap_u64]; omega) (by rw [IntKind.wrap_u64]; omega)
  have e2 : wrap64 ((IntKind.u64.wrap y / 1099511627776) % 256) = (IntKind.u64.wrap y / 1099511627776) % 256 := by unfold wrap64; omega
  rw [e, e2]
  omega
theorem nextQ_mk {w W : World} {g m k c : Nat} {A : Option Addr} {xs : List Int} {sd v : Int} (h0 : 0 ≤ v) (h1 : v ≤ 255) (hk : k ≤ m) (hg : g < w.heap.size) (h : Code w g A xs) (hG : Gr g w W)
    (c0 : W.cell? ⟨g, 0, none⟩ = some (.slice A xs.length c)) (c1 : W.cell? ⟨g, 1, none⟩ = some (.int .i64 ((k : Int) + 1))) (c2 : W.cell? ⟨g, 2, none⟩ = some (.int .u64 sd))
    (f1 : W.frozen? ⟨g, 1, none⟩ = false) (f2 : W.frozen? ⟨g, 2, none⟩ = false) : NextQ g m w (.returned (.int .i64 v)) W :=
  ⟨v, rfl, h0, h1, hG, src_mk hk hg h hG c0 c1 c2 f1 f2⟩
theorem next_any (g m : Nat) (w : World) (h : Src w g m) (hm : m ≤ 1099511627776) :
    Calls Try.prog 64 #[.pointer (some ⟨g, 0, none⟩)] w (NextQ g m w) := by
  obtain ⟨A, c, xs, k, sd, c0, c1, c2, f1, f2, hg, hk, hC⟩ := h
  have hl := hC.len
  by_cases hlt : k < xs.length
  · obtain ⟨b, off, rfl, d0, hne⟩ := at_code hC k hlt
    obtain ⟨hx0, hx1⟩ := hC.bound k hlt
    generalize hx : xs.getD k 0 = x at d0 hx0 hx1
    clear hx
    have HC := Lib.hid hC
    clear hC
    have e1 : (k : Int) < (xs.length : Int) := by omega
    have e2 : (0 : Int) ≤ (k : Int) := by omega
    have e3 : IntKind.i64.wrap ((k : Int) + 1) = (k : Int) + 1 := IntWalk.i64_in _ (by omega)
    have e4 : (k : Int) + 1 ≤ (xs.length : Int) := by omega
    have e5 : IntKind.i64.wrap x = x := IntWalk.i64_in _ (by omega)
    go_enter Try.func64, Try.ntmps64
    go_wp2
    go_quiet (fail)
    go_wp2
    go_quiet (fail)
    go_wp2
    go_quiet (fail)
    go_wp2
    generalize IntKind.u64.wrap (_ + 1442695040888963407) = sd2
    go_ret
    refine nextQ_mk (c := c) (sd := sd2) hx0 hx1 hk hg HC.out ?G ?_ ?_ ?_ ?_ ?_
    case G => (repeat (first | with_reducible exact Gr.refl g w | with_reducible refine Gr.alloc ?_ _ | with_reducible refine Gr.drewN ?_ _ | with_reducible refine Gr.set ?_ (by first | exact .inl rfl | (right; simp; omega) | (right; omega)) _ ))
    all_goals (go_simp; try assumption)
  · have HC := Lib.hid hC
    clear hC
    have e1 : ¬ (k : Int) < (xs.length : Int) := by omega
    have e2 : (0 : Int) ≤ (k : Int) := by omega
    have e3 : IntKind.i64.wrap ((k : Int) + 1) = (k : Int) + 1 := IntWalk.i64_in _ (by omega)
    have e4 : ¬ (k : Int) + 1 ≤ (xs.length : Int) := by omega
    go_enter Try.func64, Try.ntmps64
    go_wp2
    go_quiet (fail)
    go_wp2
    go_quiet (fail)
    go_wp2
    go_ret
    refine nextQ_mk (c := c) (sd := IntKind.u64.wrap (IntKind.u64.wrap (IntKind.u64.wrap (sd * 6364136223846793005)) + 1442695040888963407)) (and255 _).1 (and255 _).2 hk hg HC.out ?G2 ?_ ?_ ?_ ?_ ?_
    case G2 => (repeat (first | with_reducible exact Gr.refl g w | with_reducible refine Gr.alloc ?_ _ | with_reducible refine Gr.drewN ?_ _ | with_reducible refine Gr.set ?_ (by first | exact .inl rfl | (right; simp; omega) | (right; omega)) _ ))
    all_goals (go_simp; try assumption)
end Go.Proofs.Ytggcajillncamaa
namespace Go.Proofs.Ytggcajillncamaa
open Go.RowKit Ieee
open Go.Proofs.YtggcajillncamaaW.PrintWords
set_option maxRecDepth 100000

def PickQ (n : Int) (g m : Nat) (w : World) (e : Ending) (w' : World) : Prop := ∃ v : Int, e = .returned (.int .i64 v) ∧ 0 ≤ v ∧ v < n ∧ Gr g w w' ∧ Src w' g (m + 2)
theorem Src.up {w : World} {g m m' : Nat} (h : Src w g m) (hm : m ≤ m') : Src w g m' := by
  obtain ⟨A, c, xs, k, sd, c0, c1, c2, f1, f2, hg, hk, hC⟩ := h
  exact ⟨A, c, xs, k, sd, c0, c1, c2, f1, f2, hg, by omega, hC⟩
theorem Src.lt {w : World} {g m : Nat} (h : Src w g m) : g < w.heap.size := by
  obtain ⟨A, c, xs, k, sd, c0, c1, c2, f1, f2, hg, hk, hC⟩ := h
  exact hg
theorem pick_any (g m : Nat) (n : Int) (w : World) (h : Src w g m) (hm : m ≤ 1000000000) (hn : 1 ≤ n) (hn2 : n ≤ 1000000000000) :
    Calls Try.prog 40 #[.pointer (some ⟨g, 0, none⟩), .int .i64 n] w (PickQ n g m w) := by
  have HS := Lib.hid h
  clear h
  by_cases h1 : n ≤ 1
  · go_enter Try.func40, Try.ntmps40
    go_wp2
    go_ret
    exact ⟨0, rfl, by omega, by omega, Gr.refl g w, HS.out.up (by omega)⟩
  by_cases h2 : 200 < n
  · go_enter Try.func40, Try.ntmps40
    go_wp2_with fail
    go_at_call 64
    refine (next_any g m _ HS.out (by omega)).mono ?_
    rintro e w1 ⟨x, rfl, hx0, hx1, hG1, hS1⟩
    replace hS1 := Lib.hid hS1
    go_wp2_with fail
    go_at_call 64
    refine (next_any g (m + 1) _ hS1.out (by omega)).mono ?_
    rintro e w2 ⟨y, rfl, hy0, hy1, hG2, hS2⟩
    replace hS2 := Lib.hid hS2
    go_wp2
    go_ret
    exact ⟨_, rfl, Int.emod_nonneg _ (by omega), Int.emod_lt_of_pos _ (by omega), hG1.then hG2, hS2.out⟩
  · go_enter Try.func40, Try.ntmps40
    go_wp2_with fail
    go_at_call 64
    refine (next_any g m _ HS.out (by omega)).mono ?_
    rintro e w1 ⟨x, rfl, hx0, hx1, hG1, hS1⟩
    replace hS1 := Lib.hid hS1
    go_wp2
    go_ret
    exact ⟨_, rfl, Int.emod_nonneg _ (by omega), Int.emod_lt_of_pos _ (by omega), hG1, hS1.out.up (by omega)⟩
def OneQ (g m : Nat) (w : World) (e : Ending) (w' : World) : Prop := ∃ v : Bool, e = .returned (.bool v) ∧ Gr g w w' ∧ Src w' g (m + 2)
theorem one_any (g m : Nat) (n : Int) (w : World) (h : Src w g m) (hm : m ≤ 1000000000) (hn : 1 ≤ n) (hn2 : n ≤ 1000000000000) :
    Calls Try.prog 41 #[.pointer (some ⟨g, 0, none⟩), .int .i64 n] w (OneQ g m w) := by
  have HS := Lib.hid h
  clear h
  go_enter Try.func41, Try.ntmps41
  go_wp2_with fail
  go_at_call 40
  refine (pick_any g m n _ HS.out (by omega) (by omega) (by omega)).mono ?_
  rintro e w1 ⟨x, rfl, hx0, hx1, hG1, hS1⟩
  replace hS1 := Lib.hid hS1
  go_wp2
  go_ret
  exact ⟨_, rfl, hG1, hS1.out⟩
/-- A source made of bytes. -/
theorem l00From_any (A : Option Addr) (c : Nat) (xs : List Int) (w : World) (hA : Kd.C kB w A xs.length xs) (hb : ∀ i, i < xs.length → 0 ≤ xs.getD i 0 ∧ xs.getD i 0 ≤ 255) (hl : xs.length ≤ 1048576) :
    Calls Try.prog 19 #[.slice A xs.length c] w fun e w' => e = .returned (.pointer (some ⟨w.heap.size, 0, none⟩)) ∧ Below w.heap.size w w' ∧ Src w' w.heap.size 0 := by
  go_enter Try.func19, Try.ntmps19
  go_wp2
  go_ret
  refine ⟨rfl, balloc (Below.refl _ _) _, A, c, xs, 0, 0, ?_, ?_, ?_, ?_, ?_, ?_, Nat.le_refl _, ⟨Kd.C_alloc hA _, ?_, hb, hl⟩⟩
  case refine_7 => intro ad he hn; exact Kd.C_lt (he ▸ hA) hn (by decide)
  all_goals go_simp
end Go.Proofs.Ytggcajillncamaa
