/- The text of a tooth or of none: the program's side. -/
import Derived.Test.YtljcjgliddhgkaaDoorToothV
namespace Go.Proofs.YtljcjgliddhgkaaDoor
open Go.RowKit Ieee
open Go.Proofs.YtljcjgliddhgkaaDoorW.PrintWords
set_option maxRecDepth 100000
attribute [local irreducible] wpRel hexL cn
theorem decimalIw (s : Int) (hs : s = 0 ∨ s = 1) (w : World) : Calls Tryd.prog 29 #[.int .i64 (IntKind.i64.wrap s)] w fun e w' => e = .returned (.string ⟨#[dS s]⟩) ∧ Below w.heap.size w w' := by
  have e : IntKind.i64.wrap s = s := by rcases hs with rfl | rfl <;> decide
  rw [e]
  exact decimalI s hs w
theorem kf3 (w : World) (h x y t : Nat) (h1 : h < 4294967296) (h2 : x < 4294967296) (h3 : y < 4294967296) : Kd.C kf (w.alloc (.cells #[.float .f32 h, .float .f32 x, .float .f32 y] t)) (some ⟨w.heap.size, 0, none⟩) 3 [cn h, cn x, cn y] := by
  refine ⟨rfl, by decide, fun _ => ⟨_, rfl, fun j p hj => ?_⟩⟩
  have hj3 : j < 3 := by have := (List.getElem?_eq_some_iff.1 hj).1; simpa using this
  have key : ∀ (r : Nat) (k : Nat), r < 4294967296 → #[Value.float .f32 h, .float .f32 x, .float .f32 y][k]? = some (.float .f32 r) → ∃ c : List Value, c.length = kf.sz ∧ kf.K (w.alloc (.cells #[.float .f32 h, .float .f32 x, .float .f32 y] t)) (cn r) c ∧ ∀ i u, c[i]? = some u → (w.alloc (.cells #[.float .f32 h, .float .f32 x, .float .f32 y] t)).cell? ((⟨w.heap.size, 0, none⟩ : Addr).add (k * kf.sz + i)) = some u := by
    intro r k hr hk
    refine ⟨[.float .f32 r], rfl, ⟨r, rfl, rfl, hr⟩, fun i u hu => ?_⟩
    obtain ⟨rfl, rfl⟩ : i = 0 ∧ u = .float .f32 r := by
      cases i with
      | zero => exact ⟨rfl, by simpa using hu.symm⟩
      | succ i => simp at hu
    rw [show (⟨w.heap.size, 0, none⟩ : Addr).add (k * kf.sz + 0) = ⟨w.heap.size, k, none⟩ from by show Addr.add _ (k * 1 + 0) = _; first | (simp [Addr.add]; done) | (simp [Addr.add]; exact Eq.symm) | (simp [Addr.add]; omega)]
    rw [World.cell?_alloc_at _ _ _ _ rfl]
    exact hk
  have hc : j = 0 ∨ j = 1 ∨ j = 2 := by omega
  rcases hc with rfl | rfl | rfl
  · obtain rfl : cn h = p := by simpa using hj
    exact key h 0 h1 rfl
  · obtain rfl : cn x = p := by simpa using hj
    exact key x 1 h2 rfl
  · obtain rfl : cn y = p := by simpa using hj
    exact key y 2 h3 rfl
def jn (h x y : Nat) : List UInt8 := Go.Lib.join ([cn h, cn x, cn y].map hexL) [44]
theorem jn_eq (h x y : Nat) : jn h x y = hexL (cn h) ++ 44 :: hexL (cn x) ++ 44 :: hexL (cn y) := by simp [jn, Go.Lib.join, List.intercalate, List.intersperse]
theorem jn_len (h x y : Nat) : (jn h x y).length = 26 := by rw [jn_eq]; simp [hexL_length]
theorem texts3 (A : Option Addr) (h x y : Nat) (w : World) (hA : Kd.C kf w A 3 [cn h, cn x, cn y]) : Calls Tryd.prog 28 #[.string ⟨#[44]⟩, .slice A 3 3] w fun e w' => e = .returned (.string ⟨(jn h x y).toArray⟩) ∧ Below w.heap.size w w' :=
  texts_any A 3 3 [cn h, cn x, cn y] 44 w rfl hA (by decide) (by decide)
attribute [local irreducible] jn
set_option maxHeartbeats 1000000 in
theorem toothText_impl (h x y : Nat) (s : Int) (h1 : h < 4294967296) (h2 : x < 4294967296) (h3 : y < 4294967296) (hsl : -128 ≤ s) (hsu : s ≤ 127) (w : World) :
    Calls Tryd.prog 8 #[.agg #[.float .f32 h, .float .f32 x, .float .f32 y, .int .i8 s]] w fun e w' => e = .returned (.string ⟨(txV h x y s).toArray⟩) ∧ Below w.heap.size w w' := by
  have HH := Lib.hid (And.intro h1 (And.intro h2 h3))
  clear h1 h2 h3
  cases hk : okTooth h x y s
  · go_enter Tryd.func8, Tryd.ntmps8
    go_wp2_with (go_at_call 22; refine (validTooth_impl _ _ _ _ hsl hsu _).mono ?_; rintro e w1 ⟨rfl, hb1⟩; have hc1 := bc hb1; have hf1 := bf hb1; have hs1 := hb1.size; (try simp at hs1); (try have hz10 : w.heap.size < w1.heap.size := by omega); (try have hz11 : w.heap.size + 1 < w1.heap.size := by omega); (try have hz12 : w.heap.size + 1 + 1 < w1.heap.size := by omega); (try have hz13 : w.heap.size + 1 + 1 + 1 < w1.heap.size := by omega))
    all_goals (go_ret; refine ⟨by simp [txV, hk], ?_⟩)
    all_goals (repeat (first | with_reducible exact Below.refl _ _ | with_reducible refine bset ?_ (by first | (simp; done) | (simp; omega) | omega) _ | with_reducible refine balloc ?_ _ | with_reducible refine bdrewN ?_ _ | with_reducible refine bdrew ?_ | with_reducible refine bstep ?_ (by assumption)))
  · have hs := ok_side hk
    go_enter Tryd.func8, Tryd.ntmps8
    go_wp2_with (first | (go_at_call 22; refine (validTooth_impl _ _ _ _ hsl hsu _).mono ?_; rintro e w1 ⟨rfl, hb1⟩; have hc1 := bc hb1; have hf1 := bf hb1; have hs1 := hb1.size; (try simp at hs1); (try have hz10 : w.heap.size < w1.heap.size := by omega); (try have hz11 : w.heap.size + 1 < w1.heap.size := by omega); (try have hz12 : w.heap.size + 1 + 1 < w1.heap.size := by omega); (try have hz13 : w.heap.size + 1 + 1 + 1 < w1.heap.size := by omega)))
    have L1 : (jn h x y).length = 26 := jn_len h x y
    have L2 : ((⟨(jn h x y).toArray⟩ : ByteArray) ++ ⟨#[44]⟩).size = 27 := by rw [ba_append, ba_size]; simp [L1]
    have L3 : (⟨#[dS s]⟩ : ByteArray).size = 1 := rfl
    have HB := Lib.hid hb1
    go_region_held3 (fun w' => w'.cell? ⟨w.heap.size, 0, none⟩ = some (.float .f32 h) ∧ w'.cell? ⟨w.heap.size, 1, none⟩ = some (.float .f32 x) ∧ w'.cell? ⟨w.heap.size, 2, none⟩ = some (.float .f32 y) ∧ w'.cell? ⟨w.heap.size, 3, none⟩ = some (.int .i8 s))
      (go_keep)
      (first | (go_at_call 28; refine (texts3 _ h x y _ (Kd.C_below (kf3 _ h x y 22 HH.out.1 HH.out.2.1 HH.out.2.2) (by (repeat (first | with_reducible exact Below.refl _ _ | with_reducible refine bset ?_ (by first | (simp; done) | (simp; omega) | omega) _ | with_reducible refine balloc ?_ _ | with_reducible refine bdrewN ?_ _ | with_reducible refine bdrew ?_ | with_reducible refine bstep ?_ (by assumption)))))).mono ?_; rintro e w2 ⟨rfl, hb2⟩; have hc2 := bc hb2; have hf2 := bf hb2; have hs2 := hb2.size; (try simp at hs2); (try have hz20 : w.heap.size < w2.heap.size := by omega); (try have hz21 : w.heap.size + 1 < w2.heap.size := by omega); (try have hz22 : w.heap.size + 1 + 1 < w2.heap.size := by omega); (try have hz23 : w.heap.size + 1 + 1 + 1 < w2.heap.size := by omega); (have k20 := hc2 w.heap.size 0 (by first | omega | (simp; omega))); (have k21 := hc2 w.heap.size 1 (by first | omega | (simp; omega))); (have k22 := hc2 w.heap.size 2 (by first | omega | (simp; omega))); (have k23 := hc2 w.heap.size 3 (by first | omega | (simp; omega)))) | (go_at_call 29; refine (decimalIw s hs _).mono ?_; rintro e w3 ⟨rfl, hb3⟩; have hc3 := bc hb3; have hf3 := bf hb3; have hs3 := hb3.size; (try simp at hs3); (try have hz30 : w.heap.size < w3.heap.size := by omega); (try have hz31 : w.heap.size + 1 < w3.heap.size := by omega); (try have hz32 : w.heap.size + 1 + 1 < w3.heap.size := by omega); (try have hz33 : w.heap.size + 1 + 1 + 1 < w3.heap.size := by omega); (try have hy320 : w2.heap.size < w3.heap.size := by omega); (try have hy321 : w2.heap.size + 1 < w3.heap.size := by omega); (have k30 := hc3 w.heap.size 0 (by first | omega | (simp; omega))); (have k31 := hc3 w.heap.size 1 (by first | omega | (simp; omega))); (have k32 := hc3 w.heap.size 2 (by first | omega | (simp; omega))); (have k33 := hc3 w.heap.size 3 (by first | omega | (simp; omega)))))
    all_goals go_wp2
    all_goals (go_ret; refine ⟨by simp [txV, hk, ba_append, jn_eq, txT], ?_⟩)
    all_goals (repeat (first | with_reducible exact Below.refl _ _ | with_reducible refine bset ?_ (by first | (simp; done) | (simp; omega) | omega) _ | with_reducible refine balloc ?_ _ | with_reducible refine bdrewN ?_ _ | with_reducible refine bdrew ?_ | with_reducible refine bstep ?_ (by assumption)))
end Go.Proofs.YtljcjgliddhgkaaDoor
