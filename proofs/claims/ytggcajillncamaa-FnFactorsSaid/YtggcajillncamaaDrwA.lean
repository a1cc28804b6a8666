/- Choices: parts, one of several numbers. -/
import Derived.Test.YtggcajillncamaaDrw
import Derived.Test.YtggcajillncamaaMono
import Derived.Test.YtggcajillncamaaFs
import Derived.Test.YtggcajillncamaaA
namespace Go.Proofs.Ytggcajillncamaa
open Go.RowKit Ieee
open Go.Proofs.YtggcajillncamaaW.PrintWords
set_option maxRecDepth 100000
attribute [local irreducible] wpRel

/-! ### floats of whole numbers rise -/
theorem fi_pos (n : Nat) (hn : n ≠ 0) : fi (n : Int) = rungOf single single.leastPlace (n * 2 ^ (0 - single.leastPlace).toNat) := by
  unfold fi floatOfInt FloatKind.nearest
  show single.nearest (decide ((n : Int) < 0)) (n : Int).natAbs 0 = _
  rw [show decide ((n : Int) < 0) = false from by simp, Int.natAbs_natCast, nearest_rungOf single false hn 0 single.leastPlace (by decide) (Int.le_refl _), word_false]
theorem fi_zero : fi 0 = 0 := by decide
theorem fi_mono {a b : Int} (h0 : 0 ≤ a) (h : a ≤ b) : fi a ≤ fi b := by
  obtain ⟨m, rfl⟩ : ∃ m : Nat, a = m := ⟨a.toNat, by omega⟩
  obtain ⟨n, rfl⟩ : ∃ m : Nat, b = m := ⟨b.toNat, by omega⟩
  by_cases hm : m = 0
  · subst hm; rw [show ((0 : Nat) : Int) = 0 from rfl, fi_zero]; omega
  · rw [fi_pos m hm, fi_pos n (by omega)]
    refine rungOf_mono single (Int.le_refl _) (fun h => ?_) (Nat.mul_le_mul_right _ (by omega))
    rcases Nat.mul_eq_zero.mp h with h | h
    · exact hm h
    · exact absurd h (Nat.ne_of_gt (Nat.two_pow_pos _))
/-- A part. -/
def isPt (x : Nat) : Prop := x ≤ 1065353216
theorem isPt.nn {x : Nat} (h : isPt x) : nn x := by unfold isPt at h; unfold Proofs.Ytggcajillncamaa.nn; omega
theorem isPt_part {x : Nat} (h : isPt x) : part x = true := by
  unfold part fin
  rw [nn_fle (show nn 0 from by unfold nn; omega) h.nn, nn_fle h.nn (show nn 1065353216 from by unfold nn; omega)]
  unfold isPt at h
  simp [h]
theorem pick_part {v n : Int} {y : Nat} (h0 : 0 ≤ v) (h : v ≤ n) (hy : fi n = y) (hy0 : 0 < y) (hy1 : y < infW) : isPt (fdiv (fi v) y) := (fdiv_le_one hy0 hy1 (hy ▸ fi_mono h0 h)).2
def ToneQ (k g m : Nat) (w : World) (e : Ending) (w' : World) : Prop := ∃ r x, e = .returned (.float .f32 r) ∧ FV r x ∧ isPt x ∧ Gr g w w' ∧ Src w' g (m + k)
theorem FV.at {r x y : Nat} (h : FV r x) (e : x = y) : FV r y := e ▸ h

theorem among_any (g m : Nat) (A : Option Addr) (c : Nat) (xs : List Int) (w : World) (h : Src w g m) (hm : m ≤ 1000000000) (hA : Kd.C (Kd.int .i64) w A xs.length xs) (hf : ∀ ad, A = some ad → 0 < xs.length → ad.block ≠ g) (hn : 1 ≤ xs.length) (hn2 : xs.length ≤ 1000) :
    Calls Try.prog 44 #[.pointer (some ⟨g, 0, none⟩), .slice A xs.length c] w fun e w' => ∃ i, i < xs.length ∧ e = .returned (.int .i64 (xs.getD i 0)) ∧ Gr g w w' ∧ Src w' g (m + 2) := by
  have HS := Lib.hid h
  have HA := Lib.hid hA
  clear h hA
  go_enter Try.func44, Try.ntmps44
  go_wp2_with fail
  go_at_call 40
  refine (pick_any g m (xs.length : Int) _ HS.out (by omega) (by omega) (by omega)).mono ?_
  rintro e w1 ⟨x, rfl, hx0, hx1, hG1, hS1⟩
  obtain ⟨i, rfl⟩ : ∃ i : Nat, x = i := ⟨x.toNat, by omega⟩
  have hi : i < xs.length := by omega
  have hC1 : Kd.C (Kd.int .i64) w1 A xs.length xs := Go.Proofs.YtggcajillncamaaW.PrintWords.Kd.C_foot_ne (fun h => h) HA.out hf w1 hG1.keep
  obtain ⟨b, off, cs, rfl, hb, _, hK, hc⟩ := C_at hC1 (show 0 < (Kd.int .i64).sz by decide) 0 i hi
  have hK' : cs = [.int .i64 (xs.getD i 0)] := hK
  subst hK'
  have d0 : w1.cell? ⟨b, off + i, none⟩ = some (.int .i64 (xs.getD i 0)) := by
    have := hc 0 _ rfl
    rw [show off + i = off + i * (Kd.int .i64).sz + 0 from by show _ = off + i * 1 + 0; omega]
    exact this
  replace hS1 := Lib.hid hS1
  clear hc hC1 HA
  obtain ⟨z, hz⟩ : ∃ z, z = xs.getD i 0 := ⟨_, rfl⟩
  rw [← hz] at d0
  replace hz := Lib.hid hz
  go_wp2
  go_ret
  exact ⟨i, hi, by rw [← hz.out]; rfl, hG1, hS1.out⟩
theorem Src.below {w W : World} {g m : Nat} (h : Src w g m) (hb : Below w.heap.size w W) : Src W g m := by
  obtain ⟨A, c, xs, k, sd, c0, c1, c2, f1, f2, hg, hk, hC⟩ := h
  exact ⟨A, c, xs, k, sd, by rw [bc hb g 0 hg]; exact c0, by rw [bc hb g 1 hg]; exact c1, by rw [bc hb g 2 hg]; exact c2, by rw [bf hb _ _ hg]; exact f1, by rw [bf hb _ _ hg]; exact f2, Nat.lt_of_lt_of_le hg hb.size, hk, ⟨Kd.C_below hC.row hb, hC.far, hC.bound, hC.len⟩⟩
theorem C_lit (w : World) (xs : List Int) (t : Nat) (hl : xs.length ≤ 1000) : Kd.C (Kd.int .i64) (w.alloc (.cells (xs.map (Value.int .i64)).toArray t)) (some ⟨w.heap.size, 0, none⟩) xs.length xs := by
  refine ⟨rfl, by omega, fun _ => ⟨_, rfl, fun j p hj => ⟨[.int .i64 p], rfl, rfl, fun i u hu => ?_⟩⟩⟩
  obtain ⟨rfl, rfl⟩ : i = 0 ∧ u = .int .i64 p := by
    cases i with
    | zero => exact ⟨rfl, by simpa using hu.symm⟩
    | succ i => simp at hu
  rw [show (⟨w.heap.size, 0, none⟩ : Addr).add (j * (Kd.int .i64).sz + 0) = ⟨w.heap.size, j, none⟩ from by show Addr.add _ (j * 1 + 0) = _; simp [Addr.add]; try omega]
  rw [World.cell?_alloc_at _ _ _ _ rfl, List.getElem?_toArray, List.getElem?_map, hj]
  rfl
theorem RW.gr {α : Type} {d : Kd α} {e : Nat} {w W : World} {base g : Nat} {v : Value} {xs : List α} (h : RW d e w base v xs) (hE : d.E = []) (hG : Gr g w W) (hg : g < base) : RW d e W base v xs :=
  h.grown hE hG fun k hk he => by injection he with he; have := h.base_le k hk; omega
theorem gcell {g : Nat} {w W : World} (h : Gr g w W) (b j : Nat) (hb : b < w.heap.size) (hne : b ≠ g) : W.cell? ⟨b, j, none⟩ = w.cell? ⟨b, j, none⟩ :=
  World.cell?_of_block (h.block b hb (fun he => hne (by injection he)))
theorem gfroz {g : Nat} {w W : World} (h : Gr g w W) (b j : Nat) (hb : b < w.heap.size) (hne : b ≠ g) : W.frozen? ⟨b, j, none⟩ = w.frozen? ⟨b, j, none⟩ :=
  World.frozen?_of_block (h.block b hb (fun he => hne (by injection he)))
theorem Src.old {w W : World} {g m : Nat} (h : Src w g m) (hs : w.heap.size ≤ W.heap.size) (hb : ∀ k, k ≤ g → W.heap[k]? = w.heap[k]?) : Src W g m := by
  obtain ⟨A, c, xs, k, sd, c0, c1, c2, f1, f2, hg, hk, hC⟩ := h
  have hc : ∀ a : Addr, a.block ≤ g → W.cell? a = w.cell? a := fun a ha => World.cell?_of_block (hb _ ha)
  have hf : ∀ a : Addr, a.block ≤ g → W.frozen? a = w.frozen? a := fun a ha => World.frozen?_of_block (hb _ ha)
  have hr := hC.row
  refine ⟨A, c, xs, k, sd, (hc _ (Nat.le_refl g)).trans c0, (hc _ (Nat.le_refl g)).trans c1, (hc _ (Nat.le_refl g)).trans c2, (hf _ (Nat.le_refl g)).trans f1, (hf _ (Nat.le_refl g)).trans f2, Nat.lt_of_lt_of_le hg hs, hk, ⟨⟨hr.1, hr.2.1, fun hn => ?_⟩, hC.far, hC.bound, hC.len⟩⟩
  obtain ⟨ad, he, hcc⟩ := hr.2.2 hn
  refine ⟨ad, he, fun j p hj => ?_⟩
  obtain ⟨cs, h1, h2, h3⟩ := hcc j p hj
  exact ⟨cs, h1, h2, fun i u hu => (hc _ (by have := hC.far ad he hn; rw [add_block]; omega)).trans (h3 i u hu)⟩
theorem Src.set {w : World} {g m : Nat} (h : Src w g m) {b o : Nat} (hb : g < b) (u : Value) : Src (w.setCell ⟨b, o, none⟩ u) g m :=
  h.old (by simp) fun k hk => Below.heap_setCell w ⟨b, o, none⟩ u k (fun he => by have he' : k = b := he; omega)
theorem Src.grown {w W : World} {g m : Nat} (h : Src w g m) {row : Option Nat} (hg : w.grownBy W row) (hr : ∀ k, row = some k → g < k) : Src W g m :=
  h.old hg.size fun k hk => hg.block k (Nat.lt_of_le_of_lt hk h.lt) (fun he => by have := hr k he.symm; omega)
theorem FV_nn {r x : Nat} (h : FV r x) (hx : nn x) : r = x := by
  cases hr : isn r
  · rw [← h.1, cn_of_not hr]
  · have := h.1
    rw [cn_of_isn hr] at this
    subst this
    exact absurd hx (by unfold nn; decide)
/-- Bytes that can be drawn from. -/
structure Bytes (w : World) (A : Option Addr) (xs : List Int) : Prop where
  row : Kd.C kB w A xs.length xs
  bound : ∀ i, i < xs.length → 0 ≤ xs.getD i 0 ∧ xs.getD i 0 ≤ 255
  len : xs.length ≤ 1048576
theorem Bytes.below {w W : World} {A : Option Addr} {xs : List Int} (h : Bytes w A xs) (hb : Below w.heap.size w W) : Bytes W A xs := ⟨Kd.C_below h.row hb, h.bound, h.len⟩
end Go.Proofs.Ytggcajillncamaa
