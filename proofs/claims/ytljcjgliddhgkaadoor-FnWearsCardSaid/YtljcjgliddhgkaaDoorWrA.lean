/- Choices: a tooth. Teeth that are worn: plain; and what reading gives back. Teeth within bounds: what the functions answer, to the word. A great region that draws its order: the closed test on its edges, off a table. The great condition of the law of wears: its operations by name. -/
import Derived.Test.YtljcjgliddhgkaaDoorTeeth
import Derived.Test.YtljcjgliddhgkaaDoorDrw3
import Derived.Test.YtljcjgliddhgkaaDoorRtA
import Derived.Test.YtljcjgliddhgkaaDoorSgn
import Derived.Test.YtljcjgliddhgkaaDoorTooth8
import Derived.Test.YtljcjgliddhgkaaDoorTooth9
import Derived.Test.YtljcjgliddhgkaaDoorTooth3
import Derived.Test.YtljcjgliddhgkaaDoorTooth4
import Derived.Test.YtljcjgliddhgkaaDoorIe
import Derived.Test.YtljcjgliddhgkaaDoorOpenB
namespace Go.Proofs.YtljcjgliddhgkaaDoor
open Go.RowKit Ieee
open Go.Proofs.YtljcjgliddhgkaaDoorW.PrintWords
set_option maxRecDepth 100000
attribute [local irreducible] wpRel
def TW (r p q : Nat) (s : Int) (x : Nat × Nat × Nat × Int) : Prop := FV r x.1 ∧ FV p x.2.1 ∧ FV q x.2.2.1 ∧ s = x.2.2.2
/-- A tooth within its bounds. -/
def tD (x : Tth) : Prop := (1065353216 ≤ x.1 ∧ x.1 ≤ 1199570944) ∧ x.2.1 ≤ 1065353216 ∧ x.2.2.1 ≤ 1065353216 ∧ (x.2.2.2 = 0 ∨ x.2.2.2 = 1)
def drawnT (l : List Tth) : Prop := ∀ i, i < l.length → tD (l.getD i zT)
theorem drawnT_nil : drawnT [] := fun i h => absurd h (Nat.not_lt_zero i)
theorem drawnT_snoc {l : List Tth} (h : drawnT l) {p : Tth} (hp : tD p) : drawnT (l ++ [p]) := by
  intro i hi
  rw [List.getD_eq_getElem?_getD]
  by_cases hlt : i < l.length
  · rw [List.getElem?_append_left hlt, ← List.getD_eq_getElem?_getD]; exact h i hlt
  · have : i = l.length := by simp at hi; omega
    subst this
    simpa using hp
/-- Four cells of a block that can be written. -/
structure C4 (w : World) (b : Nat) (v0 v1 v2 v3 : Value) : Prop where
  lt : b < w.heap.size
  c0 : w.cell? ⟨b, 0, none⟩ = some v0
  c1 : w.cell? ⟨b, 1, none⟩ = some v1
  c2 : w.cell? ⟨b, 2, none⟩ = some v2
  c3 : w.cell? ⟨b, 3, none⟩ = some v3
  f0 : w.frozen? ⟨b, 0, none⟩ = false
  f1 : w.frozen? ⟨b, 1, none⟩ = false
  f2 : w.frozen? ⟨b, 2, none⟩ = false
  f3 : w.frozen? ⟨b, 3, none⟩ = false
section
variable {w W : World} {g b : Nat} {v0 v1 v2 v3 : Value}
theorem C4.gr (h : C4 w b v0 v1 v2 v3) (hG : Gr g w W) (hne : b ≠ g) : C4 W b v0 v1 v2 v3 :=
  ⟨Nat.lt_of_lt_of_le h.lt hG.size, (gcell hG b 0 h.lt hne).trans h.c0, (gcell hG b 1 h.lt hne).trans h.c1, (gcell hG b 2 h.lt hne).trans h.c2, (gcell hG b 3 h.lt hne).trans h.c3,
    (gfroz hG b 0 h.lt hne).trans h.f0, (gfroz hG b 1 h.lt hne).trans h.f1, (gfroz hG b 2 h.lt hne).trans h.f2, (gfroz hG b 3 h.lt hne).trans h.f3⟩
theorem C4.below (h : C4 w b v0 v1 v2 v3) (hb : Below w.heap.size w W) : C4 W b v0 v1 v2 v3 :=
  ⟨Nat.lt_of_lt_of_le h.lt hb.size, (bc hb b 0 h.lt).trans h.c0, (bc hb b 1 h.lt).trans h.c1, (bc hb b 2 h.lt).trans h.c2, (bc hb b 3 h.lt).trans h.c3,
    (bf hb b 0 h.lt).trans h.f0, (bf hb b 1 h.lt).trans h.f1, (bf hb b 2 h.lt).trans h.f2, (bf hb b 3 h.lt).trans h.f3⟩
theorem C4.new (w : World) (t : Nat) (v0 v1 v2 v3 : Value) : C4 (w.alloc (.cells #[v0, v1, v2, v3] t)) w.heap.size v0 v1 v2 v3 :=
  ⟨by simp, World.cell?_alloc_at _ _ _ _ rfl, World.cell?_alloc_at _ _ _ _ rfl, World.cell?_alloc_at _ _ _ _ rfl, World.cell?_alloc_at _ _ _ _ rfl, by go_simp, by go_simp, by go_simp, by go_simp⟩
theorem C4.set1 (h : C4 w b v0 v1 v2 v3) (u : Value) : C4 (w.setCell ⟨b, 1, none⟩ u) b v0 u v2 v3 := by
  obtain ⟨lt, c0, c1, c2, c3, f0, f1, f2, f3⟩ := h
  exact ⟨by simpa using lt, by go_simp; try assumption, by go_simp; try assumption, by go_simp; try assumption, by go_simp; try assumption, by go_simp; try assumption, by go_simp; try assumption, by go_simp; try assumption, by go_simp; try assumption⟩
theorem C4.set2 (h : C4 w b v0 v1 v2 v3) (u : Value) : C4 (w.setCell ⟨b, 2, none⟩ u) b v0 v1 u v3 := by
  obtain ⟨lt, c0, c1, c2, c3, f0, f1, f2, f3⟩ := h
  exact ⟨by simpa using lt, by go_simp; try assumption, by go_simp; try assumption, by go_simp; try assumption, by go_simp; try assumption, by go_simp; try assumption, by go_simp; try assumption, by go_simp; try assumption, by go_simp; try assumption⟩
theorem C4.setOther (h : C4 w b v0 v1 v2 v3) {b' o : Nat} (hne : b' ≠ b) (u : Value) : C4 (w.setCell ⟨b', o, none⟩ u) b v0 v1 v2 v3 := by
  have hh : (w.setCell ⟨b', o, none⟩ u).heap[b]? = w.heap[b]? := Below.heap_setCell w ⟨b', o, none⟩ u b (fun he => hne he.symm)
  obtain ⟨lt, c0, c1, c2, c3, f0, f1, f2, f3⟩ := h
  exact ⟨by simpa using lt, (World.cell?_of_block hh).trans c0, (World.cell?_of_block hh).trans c1, (World.cell?_of_block hh).trans c2, (World.cell?_of_block hh).trans c3, (World.frozen?_of_block hh).trans f0, (World.frozen?_of_block hh).trans f1, (World.frozen?_of_block hh).trans f2, (World.frozen?_of_block hh).trans f3⟩
end
theorem hard_ok {y : Int} (h0 : 0 ≤ y) (h1 : y < 400) : 1065353216 ≤ fi (1 + y) ∧ fi (1 + y) ≤ 1199570944 := by
  have a := fi_mono (a := 1) (b := 1 + y) (by omega) (by omega)
  have b := fi_mono (a := 1 + y) (b := 400) (by omega) (by omega)
  have e1 : fi 1 = 1065353216 := by decide
  have e2 : fi 400 ≤ 1199570944 := by decide
  omega
def ToothQ (g m : Nat) (w : World) (e : Ending) (w' : World) : Prop :=
  ∃ r p q s x, e = .returned (.agg #[.float .f32 r, .float .f32 p, .float .f32 q, .int .i8 s]) ∧ TW r p q s x ∧ tD x ∧ Gr g w w' ∧ Src w' g (m + 20)
set_option maxHeartbeats 4000000 in
theorem l06Drawn_any (g m : Nat) (w : World) (h : Src w g m) (hm : m ≤ 800000000) :
    Calls Tryd.prog 38 #[.pointer (some ⟨g, 0, none⟩)] w (ToothQ g m w) := by
  have HS := Lib.hid h
  have hlt := h.lt
  clear h
  have hz : w.heap.size ≠ g := by omega
  go_enter Tryd.func38, Tryd.ntmps38
  go_wp2_with fail
  go_at_call 39
  refine (pick_any g m 400 _ (HS.out.below (balloc (Below.refl _ _) _)) (by omega) (by omega) (by omega)).mono ?_
  rintro e w1 ⟨y, rfl, hy0, hy1, hG1, hS1⟩
  have hwy : IntKind.i64.wrap (1 + y) = 1 + y := IntWalk.i64_in _ (by omega)
  have HX1 := Lib.hid ((C4.new w 28 (.float .f32 0) (.float .f32 0) (.float .f32 0) (.int .i8 0)).gr hG1 hz)
  have HG1 := Lib.hid (((Gr.refl g w).alloc _).then hG1)
  replace hS1 := Lib.hid hS1
  clear hG1
  go_wp2_with fail
  go_at_call 39
  refine (pick_any g _ 2 _ hS1.out (by omega) (by omega) (by omega)).mono ?_
  rintro e w2 ⟨s, rfl, hs0, hs1, hG2, hS2⟩
  have hws : IntKind.i8.wrap s = s := by
    have : s = 0 ∨ s = 1 := by omega
    rcases this with rfl | rfl <;> decide
  have HX2 := Lib.hid (HX1.out.gr hG2 hz)
  have HG2 := Lib.hid (HG1.out.then hG2)
  have hg2 := hS2.lt
  replace hS2 := Lib.hid hS2
  clear hG2 HX1 HG1 hS1
  go_wp2_with fail
  have hs2 : w2.heap.size ≠ g := by omega
  have hw2 : w.heap.size ≤ w2.heap.size := HG2.out.size
  have hne2 : w.heap.size < w2.heap.size := HX2.out.lt
  go_at_call 39
  refine (pick_any g _ 17 _ (hS2.out.below (balloc (Below.refl _ _) _)) (by omega) (by omega) (by omega)).mono ?_
  rintro e w3 ⟨y1, rfl, hy10, hy11, hG3, hS3⟩
  have HY3 := Lib.hid ((C4.new w2 28 (.float .f32 (fi (1 + y))) (.float .f32 0) (.float .f32 0) (.int .i8 s)).gr hG3 hs2)
  have HX3 := Lib.hid ((HX2.out.below (balloc (Below.refl _ _) (.cells #[.float .f32 (fi (1 + y)), .float .f32 0, .float .f32 0, .int .i8 s] 28))).gr hG3 hz)
  have HG3 := Lib.hid ((HG2.out.alloc _).then hG3)
  replace hS3 := Lib.hid hS3
  have HH := Lib.hid (hard_ok hy0 hy1)
  clear hG3 HX2 HG2 hS2
  obtain ⟨pb, hpb⟩ : ∃ pb, w2.heap.size = pb := ⟨_, rfl⟩
  rw [hpb] at HY3 hs2 hw2 hne2 ⊢
  clear hpb
  obtain ⟨h, hh⟩ : ∃ h, fi (1 + y) = h := ⟨_, rfl⟩
  have HFH := Lib.hid (show FV h h by rw [← hh]; exact fi_FV _)
  rw [hh] at HY3 HH ⊢
  clear hh
  have k0 := HY3.out.lt
  have k1 := HY3.out.c1
  have k2 := HY3.out.f1
  go_wp2_with ((refine wpList_fop (o := ⟨some 15, _, _, _, _, _⟩) rfl rfl (by first | exact .inl rfl | exact .inr (.inl rfl) | exact .inr (.inr (.inl rfl)) | exact .inr (.inr (.inr rfl))) rfl rfl ?_; intro r15 n15 h15); simp only [cn_of_not (fi_isn _)] at h15; have HV15 := Lib.hid h15; clear h15)
  have HY4 := Lib.hid ((HY3.out.below (bdrewN (Below.refl _ _) n15)).set1 (.float .f32 r15))
  have HX4 := Lib.hid ((HX3.out.below (bdrewN (Below.refl _ _) n15)).setOther (b' := pb) (o := 1) (by omega) (.float .f32 r15))
  have HG4 := Lib.hid ((HG3.out.drewN n15).set (b := pb) (o := 1) (.inr hw2) (.float .f32 r15))
  have hS4 := Lib.hid ((hS3.out.below (bdrewN (Below.refl _ _) n15)).set (b := pb) (o := 1) (by omega) (.float .f32 r15))
  obtain ⟨w4, hw4⟩ : ∃ w4, (w3.drewN n15).setCell ⟨pb, 1, none⟩ (.float .f32 r15) = w4 := ⟨_, rfl⟩
  rw [hw4] at HY4 HX4 HG4 hS4 ⊢
  clear hw4 HY3 HX3 HG3 hS3 k0 k1 k2
  go_at_call 39
  refine (pick_any g _ 17 _ hS4.out (by omega) (by omega) (by omega)).mono ?_
  rintro e w5 ⟨y2, rfl, hy20, hy21, hG5, hS5⟩
  have HY5 := Lib.hid (HY4.out.gr hG5 hs2)
  have HX5 := Lib.hid (HX4.out.gr hG5 hz)
  have HG5 := Lib.hid (HG4.out.then hG5)
  replace hS5 := Lib.hid hS5
  clear hG5 HX4 HG4 hS4 HY4
  obtain ⟨k0, a0, a1, a2, a3, b0, b1, b2, b3⟩ := HY5.out
  obtain ⟨k1, c0, c1, c2, c3, d0, d1, d2, d3⟩ := HX5.out
  have hnp : pb ≠ w.heap.size := by omega
  have hnp' : w.heap.size ≠ pb := by omega
  go_wp2_with ((refine wpList_fop (o := ⟨some 21, _, _, _, _, _⟩) rfl rfl (by first | exact .inl rfl | exact .inr (.inl rfl) | exact .inr (.inr (.inl rfl)) | exact .inr (.inr (.inr rfl))) rfl rfl ?_; intro r21 n21 h21); simp only [cn_of_not (fi_isn _)] at h21; have HV21 := Lib.hid h21; clear h21)
  have hsz : pb < w5.heap.size := k0
  have hval : tD (h, fdiv (fi y1) (cn 1098907648), fdiv (fi y2) (cn 1098907648), s) := by
    have p1 := pick_part (n := 16) hy10 (by omega) (show fi 16 = 1098907648 by decide) (by decide) (by decide)
    have p2 := pick_part (n := 16) hy20 (by omega) (show fi 16 = 1098907648 by decide) (by decide) (by decide)
    exact ⟨HH.out, p1, p2, by show s = 0 ∨ s = 1; omega⟩
  have hgr : Gr g w (((((((w5.drewN n21).setCell ⟨pb, 2, none⟩ (.float .f32 r21)).setCell ⟨w.heap.size, 0, none⟩ (.float .f32 h)).setCell ⟨w.heap.size, 1, none⟩ (.float .f32 r15)).setCell ⟨w.heap.size, 2, none⟩ (.float .f32 r21)).setCell ⟨w.heap.size, 3, none⟩ (.int .i8 s))) :=
    (((((HG5.out.drewN n21).set (.inr hw2) _).set (.inr (Nat.le_refl _)) _).set (.inr (Nat.le_refl _)) _).set (.inr (Nat.le_refl _)) _).set (.inr (Nat.le_refl _)) _
  have hsr : Src (((((((w5.drewN n21).setCell ⟨pb, 2, none⟩ (.float .f32 r21)).setCell ⟨w.heap.size, 0, none⟩ (.float .f32 h)).setCell ⟨w.heap.size, 1, none⟩ (.float .f32 r15)).setCell ⟨w.heap.size, 2, none⟩ (.float .f32 r21)).setCell ⟨w.heap.size, 3, none⟩ (.int .i8 s))) g (m + 20) :=
    ((((((hS5.out.below (bdrewN (Below.refl _ _) n21)).set (by omega) _).set hlt _).set hlt _).set hlt _).set hlt _).up (by omega)
  refine bodyPost_ret (v := .agg #[.float .f32 h, .float .f32 r15, .float .f32 r21, .int .i8 s]) ?_ rfl ⟨h, r15, r21, s, _, rfl, ⟨HFH.out, HV15.out, HV21.out, rfl⟩, hval, hgr, hsr⟩
  simp [results, Tryd.results38, go_sem, *]
section
variable {ops : Array Oper} {rest : List Oper} {o : Oper} {a : Act} {Q : Exit → Act → World → Prop}
/-- append(v, x) of one tooth, whichever base. -/
theorem apTb (base : Nat) {W : World} {r p q : Nat} {d : Int} (hgd : o.guard = none) (s x : Operand) (ho : o.op = .call { callee := .builtin .append, args := #[s, x], argTypes := #[37, 37] })
    (v : Value) (xs : List Tth) (hs : a.eval s = v) (hx : a.eval x = .slice (some ⟨W.heap.size, 0, none⟩) 1 1)
    (HO : RW kT 28 W base v xs) (hb : base ≤ W.heap.size) (hl : xs.length ≤ 1048576) (y : Tth) (hy : TW r p q d y ∧ i8B d)
    (h : ∀ v1 w1, RW kT 28 w1 base v1 (xs ++ [y]) → W.grownBy w1 v.ownBlock → (v1.ownBlock = v.ownBlock ∨ ∃ b, v1.ownBlock = some b ∧ W.heap.size ≤ b) → wpList Tryd.prog ops Q rest (a.put o.dst v1) w1) :
    wpList Tryd.prog ops Q (o :: rest) a (W.alloc (.cells #[.float .f32 r, .float .f32 p, .float .f32 q, .int .i8 d] 28)) := by
  obtain ⟨y1, y2, y3, y4⟩ := y
  obtain ⟨⟨h1, h2, h3, h4⟩, h5⟩ := hy
  have h4' : d = y4 := h4
  subst h4'
  exact Kd.R_append kT (w0 := W) base hgd s x 37 28 (.agg #[.float .f32 0, .float .f32 0, .float .f32 0, .int .i8 0]) 16 ho Tryd.underlying37 info_tooth rfl (by decide) (by decide) v xs (y1, y2, y3, d) [.float .f32 r, .float .f32 p, .float .f32 q, .int .i8 d] (fun _ => True) (fun _ => False) hs hx (kT_mkM _ _ _ h1 h2 h3 h5) (fun _ h => h.elim) (fun _ _ => trivial) HO (Below.refl _ _) hb (by omega) fun v1 w1 h1 _ h2 h3 => h v1 w1 h1 h2 h3
end
theorem p6Pick_any (A : Option Addr) (c : Nat) (xs : List Int) (n : Int) (w : World) (hA : Bytes w A xs) (hn : 1 ≤ n) (hn2 : n ≤ 1000000) :
    Calls Tryd.prog 14 #[.slice A xs.length c, .int .i64 n] w fun e w' => ∃ v : Int, e = .returned (.int .i64 v) ∧ 0 ≤ v ∧ v < n ∧ Below w.heap.size w w' := by
  have HA := Lib.hid hA
  clear hA
  go_enter Tryd.func14, Tryd.ntmps14
  go_wp2_with fail
  go_at_call 37
  refine (l00From_any A c xs w HA.out.row HA.out.bound HA.out.len).mono ?_
  rintro e w1 ⟨rfl, hb1, hS1⟩
  replace hS1 := Lib.hid hS1
  go_wp2_with fail
  go_at_call 39
  refine (pick_any _ 0 n _ hS1.out (by omega) (by omega) (by omega)).mono ?_
  rintro e w2 ⟨v, rfl, h0, h1, hG, _⟩
  have HG := Lib.hid hG
  clear hG
  go_wp2
  go_ret
  exact ⟨v, rfl, h0, h1, Gr.below hb1 HG.out (Nat.le_refl _)⟩
def TeethQ (n : Nat) (w : World) (e : Ending) (w' : World) : Prop :=
  ∃ v l, e = .returned v ∧ RW kT 28 w' w.heap.size v l ∧ l.length = n ∧ drawnT l ∧ Below w.heap.size w w'
set_option maxHeartbeats 4000000 in
theorem p6Teeth_any (A B : Option Addr) (c c' n : Nat) (xs : List Int) (w : World) (hA : Bytes w A xs) (hn : n ≤ 1000) :
    Calls Tryd.prog 13 #[.slice A xs.length c, .slice B n c'] w (TeethQ n w) := by
  have HA := Lib.hid hA
  clear hA
  go_enter Tryd.func13, Tryd.ntmps13
  go_wp2_with fail
  go_at_call 37
  refine (l00From_any A c xs w HA.out.row HA.out.bound HA.out.len).mono ?_
  rintro e w1 ⟨rfl, hb1, hS1⟩
  have hlt := hS1.lt
  replace hS1 := Lib.hid hS1
  obtain ⟨g, hg⟩ : ∃ g, g = w.heap.size := ⟨_, rfl⟩
  rw [← hg] at hlt hS1 ⊢
  have hgw : w.heap.size ≤ g := by omega
  clear hg
  go_wp2
  go_loopw [6, 7] (fun v i wr => ∃ (k : Nat) (ls : List Tth), k ≤ n ∧ ls.length = k ∧ i = .int .i64 k ∧ Hid (RW kT 28 wr w1.heap.size v ls) ∧ Hid (Gr g w1 wr) ∧ Hid (drawnT ls) ∧ Hid (Src wr g (20 * k))) (fun _ i _ => n - (intOf i).toNat)
  case atStart => exact ⟨0, [], Nat.zero_le _, rfl, rfl, Lib.hid (RW.empty (w := w1.alloc (.cells #[] 28)) kT 28 w1.heap.size w1.heap.size (heap_alloc_new w1 _) (Nat.le_refl _)), Lib.hid ((Gr.refl g w1).alloc _), Lib.hid drawnT_nil, Lib.hid (hS1.out.below (balloc (Below.refl _ _) _))⟩
  case round =>
    obtain ⟨k, ls, hk, hps, rfl, HR, HG, HP, HS⟩ := hrel
    by_cases hlt2 : k < n
    · have HL := Lib.hid (show ls.length ≤ 1048576 by omega)
      go_wp2_with fail
      go_at_call 38
      refine (l06Drawn_any g _ _ HS.out (by omega)).mono ?_
      rintro e w2 ⟨r, p, q, s, y, rfl, hTW, hy, hG2, hS2⟩
      have HR2 := Lib.hid (HR.out.gr rfl hG2 hlt)
      have HG2 := Lib.hid (HG.out.then hG2)
      have HS2 := Lib.hid hS2
      have HY := Lib.hid (show TW r p q s y ∧ i8B s from ⟨hTW, by have h4 := hTW.2.2.2; have h5 := hy.2.2.2; unfold i8B; omega⟩)
      have HD := Lib.hid hy
      clear hG2 hS2 HR HG HS hTW hy
      go_wp2_with (at_builtin; go_must ((refine apTb w1.heap.size (o := ⟨some 21, _, _, _, _, _⟩) rfl (.tmp 17) (.tmp 20) rfl u6 ls ?y21 ?x21 ?o21 ?b21 HL.out y HY.out ?_; (case y21 => rfl); (case x21 => go_simp); (case o21 => exact HR2.out); (case b21 => have := HG2.out.size ; simp ; omega); intro v21 w21 ho_ hg_ hat_; have HO21 := Lib.hid ho_; have HG21 := Lib.hid (And.intro hg_ hat_); clear ho_ hg_ hat_)))
      go_roundw
      case rel =>
        refine ⟨k + 1, ls ++ [y], hlt2, by simp [hps], by go_num, HO21, Lib.hid (Gr.grown HG2.out HG21.out.1 (fun j hj => .inr (HR2.out.base_le j hj))), Lib.hid (drawnT_snoc HP.out HD.out), Lib.hid ((HS2.out.grown HG21.out.1 (fun j hj => Nat.lt_of_lt_of_le hlt (HR2.out.base_le j hj))).up (by omega))⟩
      case measure => simp [intOf]; omega
    · have hkn : k = n := by omega
      subst hkn
      go_wp2
      go_ret
      exact ⟨_, ls, rfl, HR.out.lower hb1.size, hps, HP.out, Gr.below hb1 HG.out hgw⟩
end Go.Proofs.YtljcjgliddhgkaaDoor
namespace Go.Proofs.YtljcjgliddhgkaaDoor
open Go.RowKit Ieee
open Go.Proofs.YtljcjgliddhgkaaDoorW.PrintWords
set_option maxRecDepth 100000
theorem wr_part {h u l : Nat} (h1 : 1065353216 ≤ h) (h2 : h ≤ 1199570944) (hu : u ≤ 1065353216) (hl : l ≤ 1233125376) : u ≤ wornV h u l ∧ wornV h u l ≤ 1065353216 := by
  have nu : nn u := by unfold nn; omega
  have nh : nn h := by unfold nn; omega
  have key : ∀ z, nn z → u ≤ z → u ≤ fmin1 z ∧ fmin1 z ≤ 1065353216 := fun z hz hz2 => by
    unfold fmin1
    rw [nn_flt (by unfold nn; omega) hz]
    split
    · omega
    · rename_i hc; simp at hc; omega
  have ny : fadd 1065353216 u ≤ 1073741824 := Nat.le_trans (fadd_mono (x' := 1065353216) (y' := 1065353216) (by unfold nn; omega) (by unfold nn; omega) (Nat.le_refl _) hu) (by decide)
  unfold wornV
  rw [nn_cn nu, nn_cn nh, nn_cn (show nn l by unfold nn; omega)]
  have hz : fmul l (fadd 1065353216 u) ≤ 1241513984 := Nat.le_trans (fmul_le hl ny (by omega) (by omega) (by decide) (by decide)) (by decide)
  have hd := nn_fdiv (x := fmul l (fadd 1065353216 u)) (u := h) (by unfold infW; omega) (by omega) (by unfold infW; omega)
  exact key _ (nn_fadd nu hd) (le_fadd nu hd)
theorem wks_part {h u l : Nat} (h1 : 1065353216 ≤ h) (h2 : h ≤ 1199570944) (hu : u ≤ 1065353216) (hl : l ≤ 1233125376) : ∀ k, wks h u l k ≤ 1065353216
  | 0 => hu
  | k + 1 => (wr_part h1 h2 (wks_part h1 h2 hu hl k) hl).2
theorem wkF_some {h u l q : Nat} : ∀ (d i n : Nat), wkF h u l q d i = some n → i ≤ n ∧ n < i + d ∧ flt q (wks h u l n) = true ∧ ∀ j, i ≤ j → j < n → flt q (wks h u l j) = false
  | 0, _, _, e => by cases e
  | d + 1, i, n, e => by
    rw [wkF] at e
    cases hf : flt q (wks h u l i)
    · rw [hf] at e
      obtain ⟨a, b, c, f⟩ := wkF_some d (i + 1) n (by simpa using e)
      refine ⟨by omega, by omega, c, fun j h3 h4 => ?_⟩
      by_cases hj : j = i
      · subst hj; exact hf
      · exact f j (by omega) h4
    · rw [hf] at e
      obtain rfl : i = n := by simpa using e
      exact ⟨Nat.le_refl _, by omega, hf, fun j h3 h4 => by omega⟩
theorem wkF_none {h u l q d i : Nat} (e : wkF h u l q (d + 1) i = none) : flt q (wks h u l i) = false := by
  rw [wkF] at e
  cases hf : flt q (wks h u l i)
  · rfl
  · rw [hf] at e; simp at e
theorem ld60 : ∀ v : Nat, v < 60 → fdiv (fi v) 1082130432 ≤ 1097859072 := by decide +kernel
theorem ld_ok {v : Int} (h0 : 0 ≤ v) (h1 : v < 60) : fdiv (fi v) 1082130432 ≤ 1097859072 := by
  obtain ⟨n, rfl⟩ : ∃ n : Nat, v = n := ⟨v.toNat, by omega⟩
  exact ld60 n (by omega)
theorem hexD_no : ∀ d : Nat, d < 16 → hexD d ≠ 44 := by decide
theorem hexL_no (n : Nat) : (44 : UInt8) ∉ hexL n := by
  have h : ∀ k, hexD (k % 16) ≠ 44 := fun k => hexD_no _ (Nat.mod_lt _ (by decide))
  unfold hexL
  simp only [List.mem_cons, List.not_mem_nil, or_false, not_or]
  exact ⟨(h _).symm, (h _).symm, (h _).symm, (h _).symm, (h _).symm, (h _).symm, (h _).symm, (h _).symm⟩
theorem hexL_ok {n : Nat} (h : n < 4294967296) (hc : cn n = n) : rdOk (hexL n) = true ∧ rdN (hexL n) 0 = n := by
  have e := rdN_hexL h
  refine ⟨?_, e⟩
  unfold rdOk
  rw [hexL_length, hexL_hex, e, hc]
  simp
theorem txT_split (h x y : Nat) (s : Int) : splC 44 (txT h x y s) = [hexL (cn h), hexL (cn x), hexL (cn y), [dS s]] := by
  unfold txT
  have e : hexL (cn h) ++ 44 :: hexL (cn x) ++ 44 :: hexL (cn y) ++ [44, dS s] = hexL (cn h) ++ 44 :: (hexL (cn x) ++ 44 :: (hexL (cn y) ++ 44 :: [dS s])) := by simp
  rw [e, splC_app 44 _ _ (hexL_no _), splC_app 44 _ _ (hexL_no _), splC_app 44 _ _ (hexL_no _), splC_none]
  unfold dS
  split <;> decide
theorem okTooth_of {h x y : Nat} {s : Int} (h1 : 1065353216 ≤ h) (h2 : h ≤ 1199570944) (hx : x ≤ 1065353216) (hy : y ≤ 1065353216) (hs : s = 0 ∨ s = 1) : okTooth h x y s = true := by
  have f : ∀ a b r : Nat, nn a → nn b → nn r → a ≤ r → r ≤ b → fin a b r = true := fun a b r na nb nr h1 h2 => by
    unfold fin
    rw [nn_fle na nr, nn_fle nr nb]
    simp [h1, h2]
  unfold okTooth part
  rw [f _ _ _ (by unfold nn; omega) (by unfold nn; omega) (by unfold nn; omega) h1 h2, f _ _ _ (by unfold nn; omega) (by unfold nn; omega) (by unfold nn; omega) (Nat.zero_le _) hx, f _ _ _ (by unfold nn; omega) (by unfold nn; omega) (by unfold nn; omega) (Nat.zero_le _) hy]
  rcases hs with rfl | rfl <;> rfl
theorem amount_of {l : Nat} (h : l ≤ 1233125376) : amount l = true := by
  unfold amount fin
  rw [nn_fle (by unfold nn; omega) (by unfold nn; omega), nn_fle (by unfold nn; omega) (by unfold nn; omega)]
  simp [h]
theorem part_of {l : Nat} (h : l ≤ 1065353216) : part l = true := by
  unfold part fin
  rw [nn_fle (by unfold nn; omega) (by unfold nn; omega), nn_fle (by unfold nn; omega) (by unfold nn; omega)]
  simp [h]
theorem exactW {r v : Nat} (hr : r < 4294967296) (e : cn r = v) (hv : nn v) : r = v := FV_nn ⟨e, hr⟩ hv
/-- What is written is read back. -/
theorem readBack (h x y : Nat) (s : Int) (h1 : 1065353216 ≤ h) (h2 : h ≤ 1199570944) (hx : x ≤ 1065353216) (hy : y ≤ 1065353216) (hs : s = 0 ∨ s = 1) (m : Int) (w : World) (hm : w.cell? ⟨2, 0, none⟩ = some (.int .i64 m)) :
    Calls Tryd.prog 10 #[.string ⟨(txV h x y s).toArray⟩] w fun e w' => e = .returned (.tuple #[.agg #[.float .f32 h, .float .f32 x, .float .f32 y, .int .i8 s], .int .i64 0]) ∧ Below w.heap.size w w' := by
  have nh : nn h := by unfold nn; omega
  have nx : nn x := by unfold nn; omega
  have ny : nn y := by unfold nn; omega
  have hok := okTooth_of h1 h2 hx hy hs
  have e : txV h x y s = txT h x y s := by unfold txV; rw [if_pos hok]
  rw [e]
  have hsp := txT_split h x y s
  rw [nn_cn nh, nn_cn nx, nn_cn ny] at hsp
  obtain ⟨a1, a2⟩ := hexL_ok (n := h) (by omega) (nn_cn nh)
  obtain ⟨b1, b2⟩ := hexL_ok (n := x) (by omega) (nn_cn nx)
  obtain ⟨c1, c2⟩ := hexL_ok (n := y) (by omega) (nn_cn ny)
  have hlen : (txT h x y s).length = 28 := by unfold txT; simp [hexL_length]
  have hsd : s = if ([dS s] : List UInt8) = [49] then 1 else 0 := by rcases hs with rfl | rfl <;> decide
  refine (readTooth_impl_ok s ⟨(txT h x y s).toArray⟩ m (by rw [data_size]; omega) (hexL h) (hexL x) (hexL y) [dS s] hsp (by
    intro z hz
    simp only [List.mem_cons, List.not_mem_nil, or_false] at hz
    rcases hz with rfl | rfl | rfl <;> (rw [hexL_length]; omega)) (by simp [a1, b1, c1]) hsd w hm).mono ?_
  rintro e w' ⟨h', x', y', z, k, rfl, ⟨⟨l1, l2, l3⟩, h'', x'', y'', e1, e2, e3, hh⟩, hb⟩
  rw [a2] at e1
  rw [b2] at e2
  rw [c2] at e3
  refine ⟨?_, hb⟩
  rcases hh with ⟨_, rfl, rfl, rfl, rfl, rfl⟩ | ⟨hn, _⟩
  · rw [exactW l1 e1 nh, exactW l2 e2 nx, exactW l3 e3 ny]
  · exfalso
    apply hn
    refine (rt_agree hsp a1 b1 c1 (e1.trans a2.symm) (e2.trans b2.symm) (e3.trans c2.symm) hsd).2 ⟨?_, by rw [a2, b2, c2]; exact hok⟩
    rcases hs with rfl | rfl
    · exact .inl rfl
    · exact .inr rfl
end Go.Proofs.YtljcjgliddhgkaaDoor
namespace Go.Proofs.YtljcjgliddhgkaaDoor
open Go.RowKit Ieee
open Go.Proofs.YtljcjgliddhgkaaDoorW.PrintWords
set_option maxRecDepth 100000
/-- Words within a tooth's bounds. -/
def OkW (h x y : Nat) : Prop := (1065353216 ≤ h ∧ h ≤ 1199570944) ∧ x ≤ 1065353216 ∧ y ≤ 1065353216
theorem exactC {r v : Nat} (e : cn r = v) (hv : nn v) : r = v := by
  cases hi : isn r
  · rw [← e, cn_of_not hi]
  · rw [cn_of_isn hi] at e
    subst e
    exact absurd hv (by unfold nn nanW; omega)
theorem OkW.ok {h x y : Nat} (k : OkW h x y) {s : Int} (hs : s = 0 ∨ s = 1) : okTooth h x y s = true := okTooth_of k.1.1 k.1.2 k.2.1 k.2.2 hs
theorem OkW.nh {h x y : Nat} (k : OkW h x y) : nn h := by have := k.1.2; unfold nn; omega
theorem OkW.nx {h x y : Nat} (k : OkW h x y) : nn x := by have := k.2.1; unfold nn; omega
theorem OkW.ny {h x y : Nat} (k : OkW h x y) : nn y := by have := k.2.2; unfold nn; omega
theorem OkW.lx {h x y : Nat} (k : OkW h x y) : x < 4294967296 := by have := k.2.1; omega
theorem OkW.ly {h x y : Nat} (k : OkW h x y) : y < 4294967296 := by have := k.2.2; omega
theorem OkW.lh {h x y : Nat} (k : OkW h x y) : h < 4294967296 := by have := k.1.2; omega
theorem OkW.worn0 {h x y l : Nat} (k : OkW h x y) (hl : l ≤ 1233125376) : OkW h (wornV h x l) y := ⟨k.1, (wr_part k.1.1 k.1.2 k.2.1 hl).2, k.2.2⟩
theorem OkW.worn1 {h x y l : Nat} (k : OkW h x y) (hl : l ≤ 1233125376) : OkW h x (wornV h y l) := ⟨k.1, k.2.1, (wr_part k.1.1 k.1.2 k.2.2 hl).2⟩
theorem one_cn : cn 1065353216 = 1065353216 := nn_cn (by unfold nn; omega)
theorem weeksA_0 {h x y l q : Nat} (k : OkW h x y) (hl : l ≤ 1233125376) (hq : q ≤ 1065353216) : weeksA h x y 0 l q = wkC (wkF h x l q 105 0) := by
  unfold weeksA
  rw [if_pos (k.ok (.inl rfl)), amount_of hl, part_of hq]
  simp only [Bool.and_self, if_true]
  rw [nn_cn k.nx, nn_cn (show nn q by unfold nn; omega)]
theorem weeksA_1 {h x y l q : Nat} (k : OkW h x y) (hl : l ≤ 1233125376) (hq : q ≤ 1065353216) : weeksA h x y 1 l q = wkC (wkF h y l q 105 0) := by
  unfold weeksA
  rw [if_pos (k.ok (.inr rfl)), amount_of hl, part_of hq]
  simp only [Bool.and_self, if_true]
  rw [if_neg (by decide), nn_cn k.ny, nn_cn (show nn q by unfold nn; omega)]
theorem wornI0 {h x y l : Nat} (k : OkW h x y) (hl : l ≤ 1233125376) (w : World) : Calls Tryd.prog 15 #[.agg #[.float .f32 h, .float .f32 x, .float .f32 y, .int .i8 0], .float .f32 l] w fun e w' => e = .returned (.tuple #[.agg #[.float .f32 h, .float .f32 (wornV h x l), .float .f32 y, .int .i8 0], .int .i64 0]) ∧ Below w.heap.size w w' := by
  refine (wornBy_impl h x y 0 l (by decide) (by decide) w).mono ?_
  rintro e w' ⟨h', x', y', rfl, e1, e2, e3, hb⟩
  have hr : wornR h x y 0 l = (h, wornV h x l, y, 0, 0) := by
    unfold wornR
    rw [if_pos (k.ok (.inl rfl)), if_pos (amount_of hl), nn_cn k.nh, nn_cn k.ny]
    rfl
  rw [hr] at e1 e2 e3 ⊢
  refine ⟨?_, hb⟩
  rw [exactC e1 k.nh, exactC e2 (k.worn0 hl).nx, exactC e3 k.ny]
theorem wornS0 {h x y l : Nat} (k : OkW h x y) (hl : l ≤ 1233125376) (w : World) : Calls Tryd.prog 16 #[.agg #[.float .f32 h, .float .f32 x, .float .f32 y, .int .i8 0], .float .f32 l] w fun e w' => e = .returned (.tuple #[.agg #[.float .f32 h, .float .f32 (wornV h x l), .float .f32 y, .int .i8 0], .int .i64 0]) ∧ Below w.heap.size w w' := by
  refine (wornBy_spec h x y 0 l (by decide) (by decide) w).mono ?_
  rintro e w' ⟨h', x', y', rfl, e1, e2, e3, hb⟩
  have hr : wornR h x y 0 l = (h, wornV h x l, y, 0, 0) := by
    unfold wornR
    rw [if_pos (k.ok (.inl rfl)), if_pos (amount_of hl), nn_cn k.nh, nn_cn k.ny]
    rfl
  rw [hr] at e1 e2 e3 ⊢
  refine ⟨?_, hb⟩
  rw [exactC e1 k.nh, exactC e2 (k.worn0 hl).nx, exactC e3 k.ny]
theorem wear0 {h x y : Nat} (k : OkW h x y) (w : World) : Calls Tryd.prog 17 #[.agg #[.float .f32 h, .float .f32 x, .float .f32 y, .int .i8 0]] w fun e w' => e = .returned (.tuple #[.float .f32 x, .int .i64 0]) ∧ Below w.heap.size w w' := by
  refine (wearOf_impl h x y 0 (by decide) (by decide) w).mono ?_
  rintro e w' ⟨rfl, hb⟩
  refine ⟨?_, hb⟩
  unfold wearA
  rw [if_pos (k.ok (.inl rfl))]
  rfl
theorem turn0 {h x y : Nat} (k : OkW h x y) (w : World) : Calls Tryd.prog 18 #[.agg #[.float .f32 h, .float .f32 x, .float .f32 y, .int .i8 0]] w fun e w' => e = .returned (.tuple #[.agg #[.float .f32 h, .float .f32 x, .float .f32 y, .int .i8 1], .int .i64 0]) ∧ Below w.heap.size w w' := by
  refine (turnTooth_impl h x y 0 (by decide) (by decide) w).mono ?_
  rintro e w' ⟨rfl, hb⟩
  refine ⟨?_, hb⟩
  unfold turnA
  rw [if_pos (k.ok (.inl rfl))]
  rfl
theorem fresh0 {h x y : Nat} (k : OkW h x y) (w : World) : Calls Tryd.prog 19 #[.agg #[.float .f32 h, .float .f32 x, .float .f32 y, .int .i8 0]] w fun e w' => e = .returned (.tuple #[.agg #[.float .f32 h, .float .f32 0, .float .f32 0, .int .i8 0], .int .i64 0]) ∧ Below w.heap.size w w' := by
  refine (newTooth_impl h x y 0 (by decide) (by decide) w).mono ?_
  rintro e w' ⟨rfl, hb⟩
  refine ⟨?_, hb⟩
  unfold newA
  rw [if_pos (k.ok (.inl rfl))]
theorem valid0 {h x y : Nat} (k : OkW h x y) (w : World) : Calls Tryd.prog 22 #[.agg #[.float .f32 h, .float .f32 x, .float .f32 y, .int .i8 0]] w fun e w' => e = .returned (.bool true) ∧ Below w.heap.size w w' := by
  refine (validTooth_impl h x y 0 (by decide) (by decide) w).mono ?_
  rintro e w' ⟨rfl, hb⟩
  exact ⟨by rw [k.ok (.inl rfl)], hb⟩
theorem sameI0 (h x y : Nat) (w : World) : Calls Tryd.prog 21 #[.agg #[.float .f32 h, .float .f32 x, .float .f32 y, .int .i8 0], .agg #[.float .f32 h, .float .f32 x, .float .f32 y, .int .i8 0]] w fun e w' => e = .returned (.bool true) ∧ Below w.heap.size w w' := by
  refine (sameTooth_impl h x y 0 h x y 0 w).mono ?_
  rintro e w' ⟨rfl, hb⟩
  exact ⟨by simp [sameT, same], hb⟩
theorem sameS0 (h x y : Nat) (w : World) : Calls Tryd.prog 20 #[.agg #[.float .f32 h, .float .f32 x, .float .f32 y, .int .i8 0], .agg #[.float .f32 h, .float .f32 x, .float .f32 y, .int .i8 0]] w fun e w' => e = .returned (.bool true) ∧ Below w.heap.size w w' := by
  refine (sameTooth_spec h x y 0 h x y 0 w).mono ?_
  rintro e w' ⟨rfl, hb⟩
  exact ⟨by simp [sameT, same], hb⟩
theorem weeksI0 {h x y l q : Nat} (k : OkW h x y) (hl : l ≤ 1233125376) (hq : q ≤ 1065353216) (a b : Int) (hab : wkC (wkF h x l q 105 0) = (a, b)) (w : World) : Calls Tryd.prog 23 #[.agg #[.float .f32 h, .float .f32 x, .float .f32 y, .int .i8 0], .float .f32 l, .float .f32 q] w fun e w' => e = .returned (.tuple #[.int .i64 a, .int .i64 b]) ∧ Below w.heap.size w w' := by
  refine (weeks_impl h x y 0 l q k.lx k.ly (by decide) (by decide) w).mono ?_
  rintro e w' ⟨rfl, hb⟩
  refine ⟨?_, hb⟩
  rw [weeksA_0 k hl hq, hab]
theorem weeksS0 {h x y l q : Nat} (k : OkW h x y) (hl : l ≤ 1233125376) (hq : q ≤ 1065353216) (a b : Int) (hab : wkC (wkF h x l q 105 0) = (a, b)) (w : World) : Calls Tryd.prog 24 #[.agg #[.float .f32 h, .float .f32 x, .float .f32 y, .int .i8 0], .float .f32 l, .float .f32 q] w fun e w' => e = .returned (.tuple #[.int .i64 a, .int .i64 b]) ∧ Below w.heap.size w w' := by
  refine (weeks_spec h x y 0 l q k.lx k.ly (by decide) (by decide) w).mono ?_
  rintro e w' ⟨rfl, hb⟩
  refine ⟨?_, hb⟩
  rw [weeksA_0 k hl hq, hab]
theorem wornI1 {h x y l : Nat} (k : OkW h x y) (hl : l ≤ 1233125376) (w : World) : Calls Tryd.prog 15 #[.agg #[.float .f32 h, .float .f32 x, .float .f32 y, .int .i8 1], .float .f32 l] w fun e w' => e = .returned (.tuple #[.agg #[.float .f32 h, .float .f32 x, .float .f32 (wornV h y l), .int .i8 1], .int .i64 0]) ∧ Below w.heap.size w w' := by
  refine (wornBy_impl h x y 1 l (by decide) (by decide) w).mono ?_
  rintro e w' ⟨h', x', y', rfl, e1, e2, e3, hb⟩
  have hr : wornR h x y 1 l = (h, x, wornV h y l, 1, 0) := by
    unfold wornR
    rw [if_pos (k.ok (.inr rfl)), if_pos (amount_of hl), nn_cn k.nh, nn_cn k.nx]
    rfl
  rw [hr] at e1 e2 e3 ⊢
  refine ⟨?_, hb⟩
  rw [exactC e1 k.nh, exactC e2 k.nx, exactC e3 (k.worn1 hl).ny]
theorem wornS1 {h x y l : Nat} (k : OkW h x y) (hl : l ≤ 1233125376) (w : World) : Calls Tryd.prog 16 #[.agg #[.float .f32 h, .float .f32 x, .float .f32 y, .int .i8 1], .float .f32 l] w fun e w' => e = .returned (.tuple #[.agg #[.float .f32 h, .float .f32 x, .float .f32 (wornV h y l), .int .i8 1], .int .i64 0]) ∧ Below w.heap.size w w' := by
  refine (wornBy_spec h x y 1 l (by decide) (by decide) w).mono ?_
  rintro e w' ⟨h', x', y', rfl, e1, e2, e3, hb⟩
  have hr : wornR h x y 1 l = (h, x, wornV h y l, 1, 0) := by
    unfold wornR
    rw [if_pos (k.ok (.inr rfl)), if_pos (amount_of hl), nn_cn k.nh, nn_cn k.nx]
    rfl
  rw [hr] at e1 e2 e3 ⊢
  refine ⟨?_, hb⟩
  rw [exactC e1 k.nh, exactC e2 k.nx, exactC e3 (k.worn1 hl).ny]
theorem wear1 {h x y : Nat} (k : OkW h x y) (w : World) : Calls Tryd.prog 17 #[.agg #[.float .f32 h, .float .f32 x, .float .f32 y, .int .i8 1]] w fun e w' => e = .returned (.tuple #[.float .f32 y, .int .i64 0]) ∧ Below w.heap.size w w' := by
  refine (wearOf_impl h x y 1 (by decide) (by decide) w).mono ?_
  rintro e w' ⟨rfl, hb⟩
  refine ⟨?_, hb⟩
  unfold wearA
  rw [if_pos (k.ok (.inr rfl))]
  rfl
theorem turn1 {h x y : Nat} (k : OkW h x y) (w : World) : Calls Tryd.prog 18 #[.agg #[.float .f32 h, .float .f32 x, .float .f32 y, .int .i8 1]] w fun e w' => e = .returned (.tuple #[.agg #[.float .f32 h, .float .f32 x, .float .f32 y, .int .i8 0], .int .i64 0]) ∧ Below w.heap.size w w' := by
  refine (turnTooth_impl h x y 1 (by decide) (by decide) w).mono ?_
  rintro e w' ⟨rfl, hb⟩
  refine ⟨?_, hb⟩
  unfold turnA
  rw [if_pos (k.ok (.inr rfl))]
  rfl
theorem fresh1 {h x y : Nat} (k : OkW h x y) (w : World) : Calls Tryd.prog 19 #[.agg #[.float .f32 h, .float .f32 x, .float .f32 y, .int .i8 1]] w fun e w' => e = .returned (.tuple #[.agg #[.float .f32 h, .float .f32 0, .float .f32 0, .int .i8 0], .int .i64 0]) ∧ Below w.heap.size w w' := by
  refine (newTooth_impl h x y 1 (by decide) (by decide) w).mono ?_
  rintro e w' ⟨rfl, hb⟩
  refine ⟨?_, hb⟩
  unfold newA
  rw [if_pos (k.ok (.inr rfl))]
theorem valid1 {h x y : Nat} (k : OkW h x y) (w : World) : Calls Tryd.prog 22 #[.agg #[.float .f32 h, .float .f32 x, .float .f32 y, .int .i8 1]] w fun e w' => e = .returned (.bool true) ∧ Below w.heap.size w w' := by
  refine (validTooth_impl h x y 1 (by decide) (by decide) w).mono ?_
  rintro e w' ⟨rfl, hb⟩
  exact ⟨by rw [k.ok (.inr rfl)], hb⟩
theorem sameI1 (h x y : Nat) (w : World) : Calls Tryd.prog 21 #[.agg #[.float .f32 h, .float .f32 x, .float .f32 y, .int .i8 1], .agg #[.float .f32 h, .float .f32 x, .float .f32 y, .int .i8 1]] w fun e w' => e = .returned (.bool true) ∧ Below w.heap.size w w' := by
  refine (sameTooth_impl h x y 1 h x y 1 w).mono ?_
  rintro e w' ⟨rfl, hb⟩
  exact ⟨by simp [sameT, same], hb⟩
theorem sameS1 (h x y : Nat) (w : World) : Calls Tryd.prog 20 #[.agg #[.float .f32 h, .float .f32 x, .float .f32 y, .int .i8 1], .agg #[.float .f32 h, .float .f32 x, .float .f32 y, .int .i8 1]] w fun e w' => e = .returned (.bool true) ∧ Below w.heap.size w w' := by
  refine (sameTooth_spec h x y 1 h x y 1 w).mono ?_
  rintro e w' ⟨rfl, hb⟩
  exact ⟨by simp [sameT, same], hb⟩
theorem weeksI1 {h x y l q : Nat} (k : OkW h x y) (hl : l ≤ 1233125376) (hq : q ≤ 1065353216) (a b : Int) (hab : wkC (wkF h y l q 105 0) = (a, b)) (w : World) : Calls Tryd.prog 23 #[.agg #[.float .f32 h, .float .f32 x, .float .f32 y, .int .i8 1], .float .f32 l, .float .f32 q] w fun e w' => e = .returned (.tuple #[.int .i64 a, .int .i64 b]) ∧ Below w.heap.size w w' := by
  refine (weeks_impl h x y 1 l q k.lx k.ly (by decide) (by decide) w).mono ?_
  rintro e w' ⟨rfl, hb⟩
  refine ⟨?_, hb⟩
  rw [weeksA_1 k hl hq, hab]
theorem weeksS1 {h x y l q : Nat} (k : OkW h x y) (hl : l ≤ 1233125376) (hq : q ≤ 1065353216) (a b : Int) (hab : wkC (wkF h y l q 105 0) = (a, b)) (w : World) : Calls Tryd.prog 24 #[.agg #[.float .f32 h, .float .f32 x, .float .f32 y, .int .i8 1], .float .f32 l, .float .f32 q] w fun e w' => e = .returned (.tuple #[.int .i64 a, .int .i64 b]) ∧ Below w.heap.size w w' := by
  refine (weeks_spec h x y 1 l q k.lx k.ly (by decide) (by decide) w).mono ?_
  rintro e w' ⟨rfl, hb⟩
  refine ⟨?_, hb⟩
  rw [weeksA_1 k hl hq, hab]
end Go.Proofs.YtljcjgliddhgkaaDoor
namespace Go.Proofs.YtljcjgliddhgkaaDoor
set_option maxRecDepth 100000
/-- What an operation writes, looks at, and waits for. -/
def lexRow (md : Region.Mode) (ops : Array Oper) (o : Oper) : Option Tmp × List Tmp × List Nat := (o.dst, o.looksAt ops, (o.after.toList.filter (Region.binds md)).map (·.on))
def apartT (x y : Option Tmp × List Tmp × List Nat) : Bool :=
  (match x.1 with
   | some d => !(y.2.1.contains d) && y.1 != some d
   | none => true) &&
  (match y.1 with
   | some d => !(x.2.1.contains d)
   | none => true)
def lexT : Nat → List (Option Tmp × List Tmp × List Nat) → Bool
  | _, [] => true
  | k, r :: rest => r.2.2.all (fun e => decide (e < k)) && rest.all (fun y => y.2.2.contains k || apartT r y) && lexT (k + 1) rest
/-- The first k are done. -/
def doneK (k : Nat) (listed : Array Bool) : Prop := ∀ (j : Nat) (d : Bool), j < listed.size → listed.getD j d = decide (j < k)
theorem doneK.set {k : Nat} {listed : Array Bool} (h : doneK k listed) : doneK (k + 1) (listed.setIfInBounds k true) := by
  intro j d hj
  have hj' : j < listed.size := by simpa using hj
  by_cases e : k = j
  · subst e
    simp [hj']
  · rw [getD_set_ne d e, h j d hj']
    have : decide (j < k) = decide (j < k + 1) := by
      rw [Bool.eq_iff_iff]; simp; omega
    exact this
theorem lexFrom_of {md : Region.Mode} {ops : Array Oper} : ∀ (l : List Oper) (k : Nat) (listed : Array Bool), ops.toList.drop k = l → listed.size = ops.size → doneK k listed → lexT k (l.map (lexRow md ops)) = true → Region.lexFrom md ops l.length k listed = true
  | [], k, listed, hl, hz, hd, _ => by
    have hk : ops.size ≤ k := by
      have := congrArg List.length hl
      simp at this
      omega
    show (Region.ready md ops listed).isEmpty = true
    rw [List.isEmpty_iff, List.eq_nil_iff_forall_not_mem]
    intro j hj
    obtain ⟨h1, o, h2, _⟩ := mem_ready.1 hj
    have hjs : j < ops.size := (Array.getElem?_eq_some_iff.1 h2).1
    rw [hd j true (by omega)] at h1
    simp at h1
    omega
  | o :: l, k, listed, hl, hz, hd, h => by
    have hk : k < ops.size := by
      have := congrArg List.length hl
      simp at this
      omega
    have ho : ops[k]? = some o := by
      have : (ops.toList.drop k)[0]? = some o := by rw [hl]; rfl
      rw [List.getElem?_drop] at this
      simpa using this
    have hl' : ops.toList.drop (k + 1) = l := by
      rw [← List.tail_drop, hl]; rfl
    rw [List.map_cons, lexT, Bool.and_eq_true, Bool.and_eq_true] at h
    obtain ⟨⟨h1, h2⟩, h3⟩ := h
    rw [List.length_cons, Region.lexFrom, Bool.and_eq_true, Bool.and_eq_true]
    refine ⟨⟨?_, ?_⟩, lexFrom_of l (k + 1) _ hl' (by simpa using hz) hd.set h3⟩
    · rw [List.contains_iff_mem]
      refine mem_ready.2 ⟨by rw [hd k true (by omega)]; simp, o, ho, fun e he hb => ?_⟩
      have hm : e.on ∈ (lexRow md ops o).2.2 := by
        unfold lexRow
        exact List.mem_map.2 ⟨e, List.mem_filter.2 ⟨Array.mem_toList_iff.2 he, hb⟩, rfl⟩
      have hlt : e.on < k := by simpa using List.all_eq_true.1 h1 _ hm
      rw [hd _ false (by omega)]
      simpa using hlt
    · unfold Region.free
      rw [ho]
      simp only
      rw [List.all_eq_true]
      intro j hj
      have hjs : j < ops.size := List.mem_range.1 hj
      by_cases hjk : j ≤ k
      · by_cases e : j = k
        · simp [e]
        · rw [hd j true (by omega)]
          simp; omega
      · have hoj : ops[j]? = some (ops[j]'hjs) := Array.getElem?_eq_getElem hjs
        rw [hoj]
        simp only
        have hmem : (ops[j]'hjs) ∈ l := by
          rw [← hl']
          refine List.mem_iff_getElem?.2 ⟨j - (k + 1), ?_⟩
          rw [List.getElem?_drop, show k + 1 + (j - (k + 1)) = j by omega]
          simp
        have h4 := List.all_eq_true.1 h2 _ (List.mem_map.2 ⟨_, hmem, rfl⟩)
        rw [Bool.or_eq_true] at h4
        rw [Bool.or_eq_true, Bool.or_eq_true]
        right
        rw [Bool.or_eq_true]
        rcases h4 with h4 | h4
        · left
          rw [List.contains_iff_mem] at h4
          unfold lexRow at h4
          obtain ⟨e, he, hon⟩ := List.mem_map.1 h4
          obtain ⟨he1, he2⟩ := List.mem_filter.1 he
          rw [Array.any_eq_true']
          exact ⟨e, Array.mem_toList_iff.1 he1, by simp [he2, hon]⟩
        · right
          unfold apartT lexRow at h4
          unfold Oper.apart
          exact h4
theorem lexB_of {md : Region.Mode} {ops : List Oper} (h1 : Region.noSelect ops.toArray = true) (h2 : lexT 0 (ops.map (lexRow md ops.toArray)) = true) : Region.lexB md ops.toArray = true := by
  unfold Region.lexB
  rw [h1, Bool.true_and]
  have := lexFrom_of (md := md) (ops := ops.toArray) ops 0 (Array.replicate ops.toArray.size false) (by simp) (by simp) (by
    intro j d hj
    have : j < ops.length := by simpa using hj
    simp [this]) h2
  simpa using this
end Go.Proofs.YtljcjgliddhgkaaDoor
namespace Go.Proofs.YtljcjgliddhgkaaDoor
open Go.RowKit Ieee
set_option maxRecDepth 100000
/-- The operations of a region of a code. -/
def regAt (id : Nat) : Go.Code → List Oper
  | .region i ops _ => if i = id then ops.toList else []
  | .seq a b => regAt id a ++ regAt id b
  | .cond _ a b => regAt id a ++ regAt id b
  | .block _ b => regAt id b
  | .loop b => regAt id b
  | .scope b => regAt id b
  | _ => []
noncomputable def ops17 : List Oper := (Tryd.f5.body.map (regAt 17)).getD []
theorem sel17 : Region.noSelect ops17.toArray = true := by kernel_rfl
theorem tab17 : lexT 0 (ops17.map (lexRow .any ops17.toArray)) = true := by kernel_rfl
theorem lex17 : Region.lexB .any ops17.toArray = true := lexB_of sel17 tab17
theorem region_at {P : Program} {id : Nat} {Q : Exit → Act → World → Prop} {a : Act} {w : World} {l l' : List Oper} (D : Option Tmp → Value → Prop) (e : l' = l)
    (hm : P.follows .mixedOrders = true) (hB : Region.lexB .any l.toArray = true)
    (h : wpRel P l.toArray (Bel w) D (fun a' => ∀ w', Bel w w' → Q .normal a' w') l' a) : (Go.Code.region id l'.toArray true).wp P Q a w := by
  subst e
  exact region_below D hm hB h
theorem yielded_at {ops : List Oper} {j s : Nat} (h : (ops.toArray[j]?).bind (·.dst) = some s) (t : Array Value) (b : Bool) (v : Value) (hv : t[s]? = some v) (hb : v = .bool b) : yielded ops.toArray t j = some b := by
  unfold yielded
  rw [h]
  subst hb
  simp only [Option.bind_some, hv]
theorem d17_2 : (ops17[2]?).bind (fun o => o.dst) = some 102 := by kernel_rfl
theorem y17_2 (t : Array Value) : yielded ops17.toArray t 2 = match t[102]? with | some (Value.bool b) => some b | _ => none := by
  unfold yielded
  rw [show (ops17.toArray[2]?).bind (fun o => o.dst) = some 102 by simpa using d17_2]
  rfl
theorem d17_8 : (ops17[8]?).bind (fun o => o.dst) = some 108 := by kernel_rfl
theorem y17_8 (t : Array Value) : yielded ops17.toArray t 8 = match t[108]? with | some (Value.bool b) => some b | _ => none := by
  unfold yielded
  rw [show (ops17.toArray[8]?).bind (fun o => o.dst) = some 108 by simpa using d17_8]
  rfl
theorem d17_14 : (ops17[14]?).bind (fun o => o.dst) = some 114 := by kernel_rfl
theorem y17_14 (t : Array Value) : yielded ops17.toArray t 14 = match t[114]? with | some (Value.bool b) => some b | _ => none := by
  unfold yielded
  rw [show (ops17.toArray[14]?).bind (fun o => o.dst) = some 114 by simpa using d17_14]
  rfl
theorem d17_19 : (ops17[19]?).bind (fun o => o.dst) = some 119 := by kernel_rfl
theorem y17_19 (t : Array Value) : yielded ops17.toArray t 19 = match t[119]? with | some (Value.bool b) => some b | _ => none := by
  unfold yielded
  rw [show (ops17.toArray[19]?).bind (fun o => o.dst) = some 119 by simpa using d17_19]
  rfl
theorem d17_24 : (ops17[24]?).bind (fun o => o.dst) = some 124 := by kernel_rfl
theorem y17_24 (t : Array Value) : yielded ops17.toArray t 24 = match t[124]? with | some (Value.bool b) => some b | _ => none := by
  unfold yielded
  rw [show (ops17.toArray[24]?).bind (fun o => o.dst) = some 124 by simpa using d17_24]
  rfl
theorem d17_28 : (ops17[28]?).bind (fun o => o.dst) = some 128 := by kernel_rfl
theorem y17_28 (t : Array Value) : yielded ops17.toArray t 28 = match t[128]? with | some (Value.bool b) => some b | _ => none := by
  unfold yielded
  rw [show (ops17.toArray[28]?).bind (fun o => o.dst) = some 128 by simpa using d17_28]
  rfl
theorem d17_34 : (ops17[34]?).bind (fun o => o.dst) = some 134 := by kernel_rfl
theorem y17_34 (t : Array Value) : yielded ops17.toArray t 34 = match t[134]? with | some (Value.bool b) => some b | _ => none := by
  unfold yielded
  rw [show (ops17.toArray[34]?).bind (fun o => o.dst) = some 134 by simpa using d17_34]
  rfl
theorem d17_39 : (ops17[39]?).bind (fun o => o.dst) = some 139 := by kernel_rfl
theorem y17_39 (t : Array Value) : yielded ops17.toArray t 39 = match t[139]? with | some (Value.bool b) => some b | _ => none := by
  unfold yielded
  rw [show (ops17.toArray[39]?).bind (fun o => o.dst) = some 139 by simpa using d17_39]
  rfl
theorem d17_43 : (ops17[43]?).bind (fun o => o.dst) = some 143 := by kernel_rfl
theorem y17_43 (t : Array Value) : yielded ops17.toArray t 43 = match t[143]? with | some (Value.bool b) => some b | _ => none := by
  unfold yielded
  rw [show (ops17.toArray[43]?).bind (fun o => o.dst) = some 143 by simpa using d17_43]
  rfl
theorem d17_52 : (ops17[52]?).bind (fun o => o.dst) = some 152 := by kernel_rfl
theorem y17_52 (t : Array Value) : yielded ops17.toArray t 52 = match t[152]? with | some (Value.bool b) => some b | _ => none := by
  unfold yielded
  rw [show (ops17.toArray[52]?).bind (fun o => o.dst) = some 152 by simpa using d17_52]
  rfl
theorem d17_56 : (ops17[56]?).bind (fun o => o.dst) = some 156 := by kernel_rfl
theorem y17_56 (t : Array Value) : yielded ops17.toArray t 56 = match t[156]? with | some (Value.bool b) => some b | _ => none := by
  unfold yielded
  rw [show (ops17.toArray[56]?).bind (fun o => o.dst) = some 156 by simpa using d17_56]
  rfl
theorem d17_61 : (ops17[61]?).bind (fun o => o.dst) = some 161 := by kernel_rfl
theorem y17_61 (t : Array Value) : yielded ops17.toArray t 61 = match t[161]? with | some (Value.bool b) => some b | _ => none := by
  unfold yielded
  rw [show (ops17.toArray[61]?).bind (fun o => o.dst) = some 161 by simpa using d17_61]
  rfl
theorem d17_65 : (ops17[65]?).bind (fun o => o.dst) = some 165 := by kernel_rfl
theorem y17_65 (t : Array Value) : yielded ops17.toArray t 65 = match t[165]? with | some (Value.bool b) => some b | _ => none := by
  unfold yielded
  rw [show (ops17.toArray[65]?).bind (fun o => o.dst) = some 165 by simpa using d17_65]
  rfl
theorem d17_80 : (ops17[80]?).bind (fun o => o.dst) = some 180 := by kernel_rfl
theorem y17_80 (t : Array Value) : yielded ops17.toArray t 80 = match t[180]? with | some (Value.bool b) => some b | _ => none := by
  unfold yielded
  rw [show (ops17.toArray[80]?).bind (fun o => o.dst) = some 180 by simpa using d17_80]
  rfl
theorem d17_87 : (ops17[87]?).bind (fun o => o.dst) = some 187 := by kernel_rfl
theorem y17_87 (t : Array Value) : yielded ops17.toArray t 87 = match t[187]? with | some (Value.bool b) => some b | _ => none := by
  unfold yielded
  rw [show (ops17.toArray[87]?).bind (fun o => o.dst) = some 187 by simpa using d17_87]
  rfl
theorem d17_91 : (ops17[91]?).bind (fun o => o.dst) = some 191 := by kernel_rfl
theorem y17_91 (t : Array Value) : yielded ops17.toArray t 91 = match t[191]? with | some (Value.bool b) => some b | _ => none := by
  unfold yielded
  rw [show (ops17.toArray[91]?).bind (fun o => o.dst) = some 191 by simpa using d17_91]
  rfl
theorem d17_99 : (ops17[99]?).bind (fun o => o.dst) = some 199 := by kernel_rfl
theorem y17_99 (t : Array Value) : yielded ops17.toArray t 99 = match t[199]? with | some (Value.bool b) => some b | _ => none := by
  unfold yielded
  rw [show (ops17.toArray[99]?).bind (fun o => o.dst) = some 199 by simpa using d17_99]
  rfl
theorem d17_103 : (ops17[103]?).bind (fun o => o.dst) = some 203 := by kernel_rfl
theorem y17_103 (t : Array Value) : yielded ops17.toArray t 103 = match t[203]? with | some (Value.bool b) => some b | _ => none := by
  unfold yielded
  rw [show (ops17.toArray[103]?).bind (fun o => o.dst) = some 203 by simpa using d17_103]
  rfl
theorem d17_109 : (ops17[109]?).bind (fun o => o.dst) = some 209 := by kernel_rfl
theorem y17_109 (t : Array Value) : yielded ops17.toArray t 109 = match t[209]? with | some (Value.bool b) => some b | _ => none := by
  unfold yielded
  rw [show (ops17.toArray[109]?).bind (fun o => o.dst) = some 209 by simpa using d17_109]
  rfl
theorem d17_113 : (ops17[113]?).bind (fun o => o.dst) = some 213 := by kernel_rfl
theorem y17_113 (t : Array Value) : yielded ops17.toArray t 113 = match t[213]? with | some (Value.bool b) => some b | _ => none := by
  unfold yielded
  rw [show (ops17.toArray[113]?).bind (fun o => o.dst) = some 213 by simpa using d17_113]
  rfl
theorem d17_120 : (ops17[120]?).bind (fun o => o.dst) = some 220 := by kernel_rfl
theorem y17_120 (t : Array Value) : yielded ops17.toArray t 120 = match t[220]? with | some (Value.bool b) => some b | _ => none := by
  unfold yielded
  rw [show (ops17.toArray[120]?).bind (fun o => o.dst) = some 220 by simpa using d17_120]
  rfl
theorem d17_126 : (ops17[126]?).bind (fun o => o.dst) = some 226 := by kernel_rfl
theorem y17_126 (t : Array Value) : yielded ops17.toArray t 126 = match t[226]? with | some (Value.bool b) => some b | _ => none := by
  unfold yielded
  rw [show (ops17.toArray[126]?).bind (fun o => o.dst) = some 226 by simpa using d17_126]
  rfl
end Go.Proofs.YtljcjgliddhgkaaDoor
