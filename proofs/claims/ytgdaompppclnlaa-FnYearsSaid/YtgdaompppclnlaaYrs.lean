/- Choices: teeth and torques. FnYears: contracts at what is drawn. -/
import Derived.Test.YtgdaompppclnlaaDrw3
import Derived.Test.YtgdaompppclnlaaYrLaw
import Derived.Test.YtgdaompppclnlaaTooth3
import Derived.Test.YtgdaompppclnlaaYearA
namespace Go.Proofs.Ytgdaompppclnlaa
open Go.RowKit Ieee
open Go.Proofs.YtgdaompppclnlaaW.PrintWords
set_option maxRecDepth 100000
attribute [local irreducible] wpRel

/-- Four cells of a block that can be written. -/
structure C4 (w : World) (b : Nat) (v0 v1 v2 v3 : Value) : Prop where
  lt : b < w.heap.size
  c0 : w.cell? ⟨b, 0, none⟩ = some v0
  c1 : w.cell? ⟨b, 1, none⟩ = some v1
  c2 : w.cell? ⟨b, 2, none⟩ = some v2
  c3 : w.cell? ⟨b, 3, none⟩ = some v3
  f0 : w.frozen? ⟨b, 0, none⟩ = false
  f1 : w.frozen? ⟨b, 1, none⟩ = false
  f2 : w.frozen? ⟨b, 2, none⟩ = false
  f3 : w.frozen? ⟨b, 3, none⟩ = false
section
variable {w W : World} {g b : Nat} {v0 v1 v2 v3 : Value}
theorem C4.gr (h : C4 w b v0 v1 v2 v3) (hG : Gr g w W) (hne : b ≠ g) : C4 W b v0 v1 v2 v3 :=
  ⟨Nat.lt_of_lt_of_le h.lt hG.size, (gcell hG b 0 h.lt hne).trans h.c0, (gcell hG b 1 h.lt hne).trans h.c1, (gcell hG b 2 h.lt hne).trans h.c2, (gcell hG b 3 h.lt hne).trans h.c3,
    (gfroz hG b 0 h.lt hne).trans h.f0, (gfroz hG b 1 h.lt hne).trans h.f1, (gfroz hG b 2 h.lt hne).trans h.f2, (gfroz hG b 3 h.lt hne).trans h.f3⟩
theorem C4.below (h : C4 w b v0 v1 v2 v3) (hb : Below w.heap.size w W) : C4 W b v0 v1 v2 v3 :=
  ⟨Nat.lt_of_lt_of_le h.lt hb.size, (bc hb b 0 h.lt).trans h.c0, (bc hb b 1 h.lt).trans h.c1, (bc hb b 2 h.lt).trans h.c2, (bc hb b 3 h.lt).trans h.c3,
    (bf hb b 0 h.lt).trans h.f0, (bf hb b 1 h.lt).trans h.f1, (bf hb b 2 h.lt).trans h.f2, (bf hb b 3 h.lt).trans h.f3⟩
theorem C4.new (w : World) (t : Nat) (v0 v1 v2 v3 : Value) : C4 (w.alloc (.cells #[v0, v1, v2, v3] t)) w.heap.size v0 v1 v2 v3 :=
  ⟨by simp, World.cell?_alloc_at _ _ _ _ rfl, World.cell?_alloc_at _ _ _ _ rfl, World.cell?_alloc_at _ _ _ _ rfl, World.cell?_alloc_at _ _ _ _ rfl, by go_simp, by go_simp, by go_simp, by go_simp⟩
theorem C4.set1 (h : C4 w b v0 v1 v2 v3) (u : Value) : C4 (w.setCell ⟨b, 1, none⟩ u) b v0 u v2 v3 := by
  obtain ⟨lt, c0, c1, c2, c3, f0, f1, f2, f3⟩ := h
  exact ⟨by simpa using lt, by go_simp; try assumption, by go_simp; try assumption, by go_simp; try assumption, by go_simp; try assumption, by go_simp; try assumption, by go_simp; try assumption, by go_simp; try assumption, by go_simp; try assumption⟩
theorem C4.set2 (h : C4 w b v0 v1 v2 v3) (u : Value) : C4 (w.setCell ⟨b, 2, none⟩ u) b v0 v1 u v3 := by
  obtain ⟨lt, c0, c1, c2, c3, f0, f1, f2, f3⟩ := h
  exact ⟨by simpa using lt, by go_simp; try assumption, by go_simp; try assumption, by go_simp; try assumption, by go_simp; try assumption, by go_simp; try assumption, by go_simp; try assumption, by go_simp; try assumption, by go_simp; try assumption⟩
theorem C4.setOther (h : C4 w b v0 v1 v2 v3) {b' o : Nat} (hne : b' ≠ b) (u : Value) : C4 (w.setCell ⟨b', o, none⟩ u) b v0 v1 v2 v3 := by
  have hh : (w.setCell ⟨b', o, none⟩ u).heap[b]? = w.heap[b]? := Below.heap_setCell w ⟨b', o, none⟩ u b (fun he => hne he.symm)
  obtain ⟨lt, c0, c1, c2, c3, f0, f1, f2, f3⟩ := h
  exact ⟨by simpa using lt, (World.cell?_of_block hh).trans c0, (World.cell?_of_block hh).trans c1, (World.cell?_of_block hh).trans c2, (World.cell?_of_block hh).trans c3, (World.frozen?_of_block hh).trans f0, (World.frozen?_of_block hh).trans f1, (World.frozen?_of_block hh).trans f2, (World.frozen?_of_block hh).trans f3⟩
end
theorem hard_ok {y : Int} (h0 : 0 ≤ y) (h1 : y < 400) : 1065353216 ≤ fi (1 + y) ∧ fi (1 + y) ≤ 1199570944 := by
  have a := fi_mono (a := 1) (b := 1 + y) (by omega) (by omega)
  have b := fi_mono (a := 1 + y) (b := 400) (by omega) (by omega)
  have e1 : fi 1 = 1065353216 := by decide
  have e2 : fi 400 ≤ 1199570944 := by decide
  omega
def ToothQ (g m : Nat) (w : World) (e : Ending) (w' : World) : Prop :=
  ∃ r p q s x, e = .returned (.agg #[.float .f32 r, .float .f32 p, .float .f32 q, .int .i8 s]) ∧ TW r p q s x ∧ tD x ∧ Gr g w w' ∧ Src w' g (m + 20)
set_option maxHeartbeats 4000000 in
theorem l06Drawn_any (g m : Nat) (w : World) (h : Src w g m) (hm : m ≤ 800000000) :
    Calls Try.prog 23 #[.pointer (some ⟨g, 0, none⟩)] w (ToothQ g m w) := by
  have HS := Lib.hid h
  have hlt := h.lt
  clear h
  have hz : w.heap.size ≠ g := by omega
  go_enter Try.func23, Try.ntmps23
  go_wp2_with fail
  go_at_call 24
  refine (pick_any g m 400 _ (HS.out.below (balloc (Below.refl _ _) _)) (by omega) (by omega) (by omega)).mono ?_
  rintro e w1 ⟨y, rfl, hy0, hy1, hG1, hS1⟩
  have hwy : IntKind.i64.wrap (1 + y) = 1 + y := IntWalk.i64_in _ (by omega)
  have HX1 := Lib.hid ((C4.new w 44 (.float .f32 0) (.float .f32 0) (.float .f32 0) (.int .i8 0)).gr hG1 hz)
  have HG1 := Lib.hid (((Gr.refl g w).alloc _).then hG1)
  replace hS1 := Lib.hid hS1
  clear hG1
  go_wp2_with fail
  go_at_call 24
  refine (pick_any g _ 2 _ hS1.out (by omega) (by omega) (by omega)).mono ?_
  rintro e w2 ⟨s, rfl, hs0, hs1, hG2, hS2⟩
  have hws : IntKind.i8.wrap s = s := by
    have : s = 0 ∨ s = 1 := by omega
    rcases this with rfl | rfl <;> decide
  have HX2 := Lib.hid (HX1.out.gr hG2 hz)
  have HG2 := Lib.hid (HG1.out.then hG2)
  have hg2 := hS2.lt
  replace hS2 := Lib.hid hS2
  clear hG2 HX1 HG1 hS1
  go_wp2_with fail
  have hs2 : w2.heap.size ≠ g := by omega
  have hw2 : w.heap.size ≤ w2.heap.size := HG2.out.size
  have hne2 : w.heap.size < w2.heap.size := HX2.out.lt
  go_at_call 24
  refine (pick_any g _ 17 _ (hS2.out.below (balloc (Below.refl _ _) _)) (by omega) (by omega) (by omega)).mono ?_
  rintro e w3 ⟨y1, rfl, hy10, hy11, hG3, hS3⟩
  have HY3 := Lib.hid ((C4.new w2 44 (.float .f32 (fi (1 + y))) (.float .f32 0) (.float .f32 0) (.int .i8 s)).gr hG3 hs2)
  have HX3 := Lib.hid ((HX2.out.below (balloc (Below.refl _ _) (.cells #[.float .f32 (fi (1 + y)), .float .f32 0, .float .f32 0, .int .i8 s] 44))).gr hG3 hz)
  have HG3 := Lib.hid ((HG2.out.alloc _).then hG3)
  replace hS3 := Lib.hid hS3
  have HH := Lib.hid (hard_ok hy0 hy1)
  clear hG3 HX2 HG2 hS2
  obtain ⟨pb, hpb⟩ : ∃ pb, w2.heap.size = pb := ⟨_, rfl⟩
  rw [hpb] at HY3 hs2 hw2 hne2 ⊢
  clear hpb
  obtain ⟨h, hh⟩ : ∃ h, fi (1 + y) = h := ⟨_, rfl⟩
  have HFH := Lib.hid (show FV h h by rw [← hh]; exact fi_FV _)
  rw [hh] at HY3 HH ⊢
  clear hh
  have k0 := HY3.out.lt
  have k1 := HY3.out.c1
  have k2 := HY3.out.f1
  go_wp2_with ((refine wpList_fop (o := ⟨some 15, _, _, _, _, _⟩) rfl rfl (by first | exact .inl rfl | exact .inr (.inl rfl) | exact .inr (.inr (.inl rfl)) | exact .inr (.inr (.inr rfl))) rfl rfl ?_; intro r15 n15 h15); simp only [cn_of_not (fi_isn _)] at h15; have HV15 := Lib.hid h15; clear h15)
  have HY4 := Lib.hid ((HY3.out.below (bdrewN (Below.refl _ _) n15)).set1 (.float .f32 r15))
  have HX4 := Lib.hid ((HX3.out.below (bdrewN (Below.refl _ _) n15)).setOther (b' := pb) (o := 1) (by omega) (.float .f32 r15))
  have HG4 := Lib.hid ((HG3.out.drewN n15).set (b := pb) (o := 1) (.inr hw2) (.float .f32 r15))
  have hS4 := Lib.hid ((hS3.out.below (bdrewN (Below.refl _ _) n15)).set (b := pb) (o := 1) (by omega) (.float .f32 r15))
  obtain ⟨w4, hw4⟩ : ∃ w4, (w3.drewN n15).setCell ⟨pb, 1, none⟩ (.float .f32 r15) = w4 := ⟨_, rfl⟩
  rw [hw4] at HY4 HX4 HG4 hS4 ⊢
  clear hw4 HY3 HX3 HG3 hS3 k0 k1 k2
  go_at_call 24
  refine (pick_any g _ 17 _ hS4.out (by omega) (by omega) (by omega)).mono ?_
  rintro e w5 ⟨y2, rfl, hy20, hy21, hG5, hS5⟩
  have HY5 := Lib.hid (HY4.out.gr hG5 hs2)
  have HX5 := Lib.hid (HX4.out.gr hG5 hz)
  have HG5 := Lib.hid (HG4.out.then hG5)
  replace hS5 := Lib.hid hS5
  clear hG5 HX4 HG4 hS4 HY4
  obtain ⟨k0, a0, a1, a2, a3, b0, b1, b2, b3⟩ := HY5.out
  obtain ⟨k1, c0, c1, c2, c3, d0, d1, d2, d3⟩ := HX5.out
  have hnp : pb ≠ w.heap.size := by omega
  have hnp' : w.heap.size ≠ pb := by omega
  go_wp2_with ((refine wpList_fop (o := ⟨some 21, _, _, _, _, _⟩) rfl rfl (by first | exact .inl rfl | exact .inr (.inl rfl) | exact .inr (.inr (.inl rfl)) | exact .inr (.inr (.inr rfl))) rfl rfl ?_; intro r21 n21 h21); simp only [cn_of_not (fi_isn _)] at h21; have HV21 := Lib.hid h21; clear h21)
  have hsz : pb < w5.heap.size := k0
  have hval : tD (h, fdiv (fi y1) (cn 1098907648), fdiv (fi y2) (cn 1098907648), s) := by
    have p1 := pick_part (n := 16) hy10 (by omega) (show fi 16 = 1098907648 by decide) (by decide) (by decide)
    have p2 := pick_part (n := 16) hy20 (by omega) (show fi 16 = 1098907648 by decide) (by decide) (by decide)
    exact ⟨HH.out, p1, p2, by show s = 0 ∨ s = 1; omega⟩
  have hgr : Gr g w (((((((w5.drewN n21).setCell ⟨pb, 2, none⟩ (.float .f32 r21)).setCell ⟨w.heap.size, 0, none⟩ (.float .f32 h)).setCell ⟨w.heap.size, 1, none⟩ (.float .f32 r15)).setCell ⟨w.heap.size, 2, none⟩ (.float .f32 r21)).setCell ⟨w.heap.size, 3, none⟩ (.int .i8 s))) :=
    (((((HG5.out.drewN n21).set (.inr hw2) _).set (.inr (Nat.le_refl _)) _).set (.inr (Nat.le_refl _)) _).set (.inr (Nat.le_refl _)) _).set (.inr (Nat.le_refl _)) _
  have hsr : Src (((((((w5.drewN n21).setCell ⟨pb, 2, none⟩ (.float .f32 r21)).setCell ⟨w.heap.size, 0, none⟩ (.float .f32 h)).setCell ⟨w.heap.size, 1, none⟩ (.float .f32 r15)).setCell ⟨w.heap.size, 2, none⟩ (.float .f32 r21)).setCell ⟨w.heap.size, 3, none⟩ (.int .i8 s))) g (m + 20) :=
    ((((((hS5.out.below (bdrewN (Below.refl _ _) n21)).set (by omega) _).set hlt _).set hlt _).set hlt _).set hlt _).up (by omega)
  refine bodyPost_ret (v := .agg #[.float .f32 h, .float .f32 r15, .float .f32 r21, .int .i8 s]) ?_ rfl ⟨h, r15, r21, s, _, rfl, ⟨HFH.out, HV15.out, HV21.out, rfl⟩, hval, hgr, hsr⟩
  simp [results, Try.results23, go_sem, *]
section
variable {ops : Array Oper} {rest : List Oper} {o : Oper} {a : Act} {Q : Exit → Act → World → Prop}
/-- append(v, x) of one tooth, whichever base. -/
theorem apTb (base : Nat) {W : World} {r p q : Nat} {d : Int} (hgd : o.guard = none) (s x : Operand) (ho : o.op = .call { callee := .builtin .append, args := #[s, x], argTypes := #[27, 27] })
    (v : Value) (xs : List Tth) (hs : a.eval s = v) (hx : a.eval x = .slice (some ⟨W.heap.size, 0, none⟩) 1 1)
    (HO : RW kT 44 W base v xs) (hb : base ≤ W.heap.size) (hl : xs.length ≤ 1048576) (y : Tth) (hy : TW r p q d y ∧ i8B d)
    (h : ∀ v1 w1, RW kT 44 w1 base v1 (xs ++ [y]) → W.grownBy w1 v.ownBlock → (v1.ownBlock = v.ownBlock ∨ ∃ b, v1.ownBlock = some b ∧ W.heap.size ≤ b) → wpList Try.prog ops Q rest (a.put o.dst v1) w1) :
    wpList Try.prog ops Q (o :: rest) a (W.alloc (.cells #[.float .f32 r, .float .f32 p, .float .f32 q, .int .i8 d] 44)) := by
  obtain ⟨y1, y2, y3, y4⟩ := y
  obtain ⟨⟨h1, h2, h3, h4⟩, h5⟩ := hy
  have h4' : d = y4 := h4
  subst h4'
  exact Kd.R_append kT (w0 := W) base hgd s x 27 44 (.agg #[.float .f32 0, .float .f32 0, .float .f32 0, .int .i8 0]) 16 ho Try.underlying27 info_tooth rfl (by decide) (by decide) v xs (y1, y2, y3, d) [.float .f32 r, .float .f32 p, .float .f32 q, .int .i8 d] (fun _ => True) (fun _ => False) hs hx (kT_mkM _ _ _ h1 h2 h3 h5) (fun _ h => h.elim) (fun _ _ => trivial) HO (Below.refl _ _) hb (by omega) fun v1 w1 h1 _ h2 h3 => h v1 w1 h1 h2 h3
end
theorem p6Pick_any (A : Option Addr) (c : Nat) (xs : List Int) (n : Int) (w : World) (hA : Bytes w A xs) (hn : 1 ≤ n) (hn2 : n ≤ 1000000) :
    Calls Try.prog 8 #[.slice A xs.length c, .int .i64 n] w fun e w' => ∃ v : Int, e = .returned (.int .i64 v) ∧ 0 ≤ v ∧ v < n ∧ Below w.heap.size w w' := by
  have HA := Lib.hid hA
  clear hA
  go_enter Try.func8, Try.ntmps8
  go_wp2_with fail
  go_at_call 22
  refine (l00From_any A c xs w HA.out.row HA.out.bound HA.out.len).mono ?_
  rintro e w1 ⟨rfl, hb1, hS1⟩
  replace hS1 := Lib.hid hS1
  go_wp2_with fail
  go_at_call 24
  refine (pick_any _ 0 n _ hS1.out (by omega) (by omega) (by omega)).mono ?_
  rintro e w2 ⟨v, rfl, h0, h1, hG, _⟩
  have HG := Lib.hid hG
  clear hG
  go_wp2
  go_ret
  exact ⟨v, rfl, h0, h1, Gr.below hb1 HG.out (Nat.le_refl _)⟩
theorem drawnX_snoc {xs : List Nat} (h : drawnX xs) {x : Nat} (hx : x ≤ 1112014848) : drawnX (xs ++ [x]) := by
  intro i
  rw [List.getD_eq_getElem?_getD]
  rcases Nat.lt_trichotomy i xs.length with hlt | rfl | hgt
  · rw [List.getElem?_append_left hlt, ← List.getD_eq_getElem?_getD]; exact h i
  · simpa using hx
  · rw [List.getElem?_eq_none (by simp; omega)]; exact Nat.zero_le _
def TorqsQ (w : World) (e : Ending) (w' : World) : Prop :=
  ∃ v xs, e = .returned v ∧ FR w' w.heap.size v xs ∧ xs.length ≤ 6 ∧ drawnX xs ∧ Below w.heap.size w w'
set_option maxHeartbeats 4000000 in
theorem p6Torques_any (A : Option Addr) (c : Nat) (xs : List Int) (w : World) (hA : Bytes w A xs) :
    Calls Try.prog 7 #[.slice A xs.length c] w (TorqsQ w) := by
  have HA := Lib.hid hA
  clear hA
  go_enter Try.func7, Try.ntmps7
  go_wp2_with fail
  go_at_call 22
  refine (l00From_any A c xs w HA.out.row HA.out.bound HA.out.len).mono ?_
  rintro e w1 ⟨rfl, hb1, hS1⟩
  have hlt := hS1.lt
  replace hS1 := Lib.hid hS1
  obtain ⟨g, hg⟩ : ∃ g, g = w.heap.size := ⟨_, rfl⟩
  rw [← hg] at hlt hS1 ⊢
  have hgw : w.heap.size ≤ g := by omega
  clear hg
  go_wp2_with fail
  go_at_call 24
  refine (pick_any g 0 7 _ (hS1.out.below (balloc (Below.refl _ _) _)) (by omega) (by decide) (by decide)).mono ?_
  rintro e w2 ⟨x, rfl, hx0, hx1, hG1, hS2⟩
  obtain ⟨N, rfl⟩ : ∃ N : Nat, x = N := ⟨x.toNat, by omega⟩
  have HR0 := Lib.hid ((RW.empty (w := w1.alloc (.cells #[] 31)) kf 31 w1.heap.size w1.heap.size (heap_alloc_new w1 _) (Nat.le_refl _)).gr rfl hG1 hlt)
  have HG0 : Hid (Gr g w1 w2) := Lib.hid (((Gr.refl g w1).alloc _).then hG1)
  replace hS2 := Lib.hid hS2
  clear hG1
  go_wp2
  go_loopw [4, 5] (fun v i wr => ∃ (k : Nat) (ps : List Nat), k ≤ N ∧ ps.length = k ∧ i = .int .i64 ((N : Int) - k) ∧ Hid (RW kf 31 wr w1.heap.size v ps) ∧ Hid (Gr g w1 wr) ∧ Hid (drawnX ps) ∧ Hid (Src wr g (2 + 2 * k))) (fun _ i _ => (intOf i).toNat)
  case atStart => exact ⟨0, [], Nat.zero_le _, rfl, by go_num, HR0, HG0, Lib.hid (fun i => Nat.zero_le _), hS2⟩
  case round =>
    obtain ⟨k, ps, hk, hps, rfl, HR, HG, HP, HS⟩ := hrel
    by_cases hlt2 : k < N
    · have HL := Lib.hid (show ps.length ≤ 1048576 by omega)
      have hw1 : IntKind.i64.wrap ((N : Int) - k - 1) = (N : Int) - (k + 1 : Nat) := by rw [show (N : Int) - k - 1 = (N : Int) - (k + 1 : Nat) by omega]; exact IntWalk.i64_in _ (by omega)
      have hpos : (0 : Int) < (N : Int) - k := by omega
      go_wp2_with fail
      go_at_call 24
      refine (pick_any g _ 200 _ HS.out (by omega) (by decide) (by decide)).mono ?_
      rintro e w3 ⟨y, rfl, hy0, hy1, hG2, hS3⟩
      have HR2 := Lib.hid (HR.out.gr rfl hG2 hlt)
      have HG2 := Lib.hid (HG.out.then hG2)
      have HS2 := Lib.hid hS3
      clear hG2 hS3 HR HG HS
      go_wp2_with (first | ((refine wpList_fop (o := ⟨some 19, _, _, _, _, _⟩) rfl rfl (by first | exact .inl rfl | exact .inr (.inl rfl) | exact .inr (.inr (.inl rfl)) | exact .inr (.inr (.inr rfl))) rfl rfl ?_; intro r19 n19 h19); have HV := Lib.hid (torq_at hy0 hy1 h19); clear h19) | (at_builtin; go_must ((refine apFb w1.heap.size (o := ⟨some 21, _, _, _, _, _⟩) rfl (.tmp 15) (.tmp 20) rfl u4 ps ?y21 ?x21 ?o21 ?b21 HL.out HV.out.2.1 ?_; (case y21 => rfl); (case x21 => go_simp); (case o21 => apply RW.drewN ; exact HR2.out); (case b21 => have := HG2.out.size ; simp ; omega); intro v21 w21 ho_ hg_ hat_; have HO21 := Lib.hid ho_; have HG21 := Lib.hid (And.intro hg_ hat_); clear ho_ hg_ hat_))))
      go_roundw
      case rel =>
        refine ⟨k + 1, ps ++ [_], hlt2, by simp [hps], by go_num, HO21, Lib.hid (Gr.grown (HG2.out.drewN _) HG21.out.1 (fun j hj => .inr (HR2.out.base_le j hj))), Lib.hid (drawnX_snoc HP.out HV.out.2.2), Lib.hid (((HS2.out.below (bdrewN (Below.refl _ _) _)).grown HG21.out.1 (fun j hj => Nat.lt_of_lt_of_le hlt (HR2.out.base_le j hj))).up (by omega))⟩
      case measure => simp [intOf]; omega
    · have hkn : k = N := by omega
      subst hkn
      go_wp2
      go_ret
      exact ⟨_, ps, rfl, (HR.out.lower hb1.size).toF, by omega, HP.out, Gr.below hb1 HG.out hgw⟩
def TeethQ (n : Nat) (w : World) (e : Ending) (w' : World) : Prop :=
  ∃ v l, e = .returned v ∧ RW kT 44 w' w.heap.size v l ∧ l.length = n ∧ drawnT l ∧ Below w.heap.size w w'
set_option maxHeartbeats 4000000 in
theorem p6Teeth_any (A B : Option Addr) (c c' n : Nat) (xs : List Int) (w : World) (hA : Bytes w A xs) (hn : n ≤ 1000) :
    Calls Try.prog 6 #[.slice A xs.length c, .slice B n c'] w (TeethQ n w) := by
  have HA := Lib.hid hA
  clear hA
  go_enter Try.func6, Try.ntmps6
  go_wp2_with fail
  go_at_call 22
  refine (l00From_any A c xs w HA.out.row HA.out.bound HA.out.len).mono ?_
  rintro e w1 ⟨rfl, hb1, hS1⟩
  have hlt := hS1.lt
  replace hS1 := Lib.hid hS1
  obtain ⟨g, hg⟩ : ∃ g, g = w.heap.size := ⟨_, rfl⟩
  rw [← hg] at hlt hS1 ⊢
  have hgw : w.heap.size ≤ g := by omega
  clear hg
  go_wp2
  go_loopw [6, 7] (fun v i wr => ∃ (k : Nat) (ls : List Tth), k ≤ n ∧ ls.length = k ∧ i = .int .i64 k ∧ Hid (RW kT 44 wr w1.heap.size v ls) ∧ Hid (Gr g w1 wr) ∧ Hid (drawnT ls) ∧ Hid (Src wr g (20 * k))) (fun _ i _ => n - (intOf i).toNat)
  case atStart => exact ⟨0, [], Nat.zero_le _, rfl, rfl, Lib.hid (RW.empty (w := w1.alloc (.cells #[] 44)) kT 44 w1.heap.size w1.heap.size (heap_alloc_new w1 _) (Nat.le_refl _)), Lib.hid ((Gr.refl g w1).alloc _), Lib.hid drawnT_nil, Lib.hid (hS1.out.below (balloc (Below.refl _ _) _))⟩
  case round =>
    obtain ⟨k, ls, hk, hps, rfl, HR, HG, HP, HS⟩ := hrel
    by_cases hlt2 : k < n
    · have HL := Lib.hid (show ls.length ≤ 1048576 by omega)
      go_wp2_with fail
      go_at_call 23
      refine (l06Drawn_any g _ _ HS.out (by omega)).mono ?_
      rintro e w2 ⟨r, p, q, s, y, rfl, hTW, hy, hG2, hS2⟩
      have HR2 := Lib.hid (HR.out.gr rfl hG2 hlt)
      have HG2 := Lib.hid (HG.out.then hG2)
      have HS2 := Lib.hid hS2
      have HY := Lib.hid (show TW r p q s y ∧ i8B s from ⟨hTW, by have h4 := hTW.2.2.2; have h5 := hy.2.2.2; unfold i8B; omega⟩)
      have HD := Lib.hid hy
      clear hG2 hS2 HR HG HS hTW hy
      go_wp2_with (at_builtin; go_must ((refine apTb w1.heap.size (o := ⟨some 21, _, _, _, _, _⟩) rfl (.tmp 17) (.tmp 20) rfl u6 ls ?y21 ?x21 ?o21 ?b21 HL.out y HY.out ?_; (case y21 => rfl); (case x21 => go_simp); (case o21 => exact HR2.out); (case b21 => have := HG2.out.size ; simp ; omega); intro v21 w21 ho_ hg_ hat_; have HO21 := Lib.hid ho_; have HG21 := Lib.hid (And.intro hg_ hat_); clear ho_ hg_ hat_)))
      go_roundw
      case rel =>
        refine ⟨k + 1, ls ++ [y], hlt2, by simp [hps], by go_num, HO21, Lib.hid (Gr.grown HG2.out HG21.out.1 (fun j hj => .inr (HR2.out.base_le j hj))), Lib.hid (drawnT_snoc HP.out HD.out), Lib.hid ((HS2.out.grown HG21.out.1 (fun j hj => Nat.lt_of_lt_of_le hlt (HR2.out.base_le j hj))).up (by omega))⟩
      case measure => simp [intOf]; omega
    · have hkn : k = n := by omega
      subst hkn
      go_wp2
      go_ret
      exact ⟨_, ls, rfl, HR.out.lower hb1.size, hps, HP.out, Gr.below hb1 HG.out hgw⟩
end Go.Proofs.Ytgdaompppclnlaa
namespace Go.Proofs.Ytgdaompppclnlaa
open Go.RowKit Ieee
open Go.Proofs.YtgdaompppclnlaaW.PrintWords
set_option maxRecDepth 100000
attribute [local irreducible] wpRel

@[go_sem high] theorem some_undefY : (some undef : Option Value) = some (.tuple #[]) := rfl
theorem same_FV {r s x : Nat} (hr : FV r x) (hs : FV s x) : same r s = true := by unfold same; exact decide_eq_true (hr.1.trans hs.1.symm)
theorem l01Same_FV {r s x : Nat} (hr : FV r x) (hs : FV s x) (w : World) : Calls Try.prog 38 #[.float .f32 r, .float .f32 s] w fun e w' => e = .returned (.bool true) ∧ w = w' := by
  have h := l01Same_any r s w
  rwa [same_FV hr hs] at h
theorem sameTooth_FV {r p q r' p' q' : Nat} {s s' : Int} {x : Tth} (h : TW r p q s x) (h' : TW r' p' q' s' x) (w : World) :
    Calls Try.prog 36 #[.agg #[.float .f32 r, .float .f32 p, .float .f32 q, .int .i8 s], .agg #[.float .f32 r', .float .f32 p', .float .f32 q', .int .i8 s']] w fun e w' => e = .returned (.bool true) ∧ Below w.heap.size w w' := by
  have hh := sameTooth_spec r p q s r' p' q' s' w
  have e : sameT r p q s r' p' q' s' = true := by
    unfold sameT
    rw [same_FV h.1 h'.1, same_FV h.2.1 h'.2.1, same_FV h.2.2.1 h'.2.2.1, decide_eq_true (h.2.2.2.trans h'.2.2.2.symm)]
    rfl
  rwa [e] at hh
theorem sameTeeth_any (A B : Option Addr) (c c' n : Nat) (l : List Tth) (w : World) (hA : Kd.C kT w A n l) (hB : Kd.C kT w B n l) (hm : n ≤ 1000) :
    Calls Try.prog 12 #[.slice A n c, .slice B n c'] w fun e w' => e = .returned (.bool true) ∧ Below w.heap.size w w' := by
  have HA := Lib.hid hA
  have HB := Lib.hid hB
  clear hA hB
  go_enter Try.func12, Try.ntmps12
  go_wp2
  go_loopw [5] (fun i wr => ∃ k : Nat, k ≤ n ∧ i = .int .i64 k ∧ Below w.heap.size w wr) (fun i _ => n - (intOf i).toNat)
  case atStart => exact ⟨0, Nat.zero_le _, rfl, Below.refl _ _⟩
  case round =>
    obtain ⟨k, hk, rfl, hb⟩ := hrel
    by_cases hlt : k < n
    · obtain ⟨b, off, r, p, q, s, rfl, hbl, c0, c1, c2, c3, hx, hr, hp, hq, h8⟩ := at_kT HA.out k hlt
      obtain ⟨b', off', r', p', q', s', rfl, hbl', c0', c1', c2', c3', hx', hr', hp', hq', _⟩ := at_kT HB.out k hlt
      have HT := Lib.hid (show TW r p q s (l.getD k zT) ∧ TW r' p' q' s' (l.getD k zT) from ⟨by rw [hx]; exact ⟨⟨rfl, hr⟩, ⟨rfl, hp⟩, ⟨rfl, hq⟩, rfl⟩, by rw [hx']; exact ⟨⟨rfl, hr'⟩, ⟨rfl, hp'⟩, ⟨rfl, hq'⟩, rfl⟩⟩)
      have d0 := (bc hb b (off + k * 4) hbl).trans c0
      have d1 := (bc hb b (off + k * 4 + 1) hbl).trans c1
      have d2 := (bc hb b (off + k * 4 + 2) hbl).trans c2
      have d3 := (bc hb b (off + k * 4 + 3) hbl).trans c3
      have d0' := (bc hb b' (off' + k * 4) hbl').trans c0'
      have d1' := (bc hb b' (off' + k * 4 + 1) hbl').trans c1'
      have d2' := (bc hb b' (off' + k * 4 + 2) hbl').trans c2'
      have d3' := (bc hb b' (off' + k * 4 + 3) hbl').trans c3'
      have l0 : b < wr.heap.size := Nat.lt_of_lt_of_le hbl hb.size
      have l1 : b' < wr.heap.size := Nat.lt_of_lt_of_le hbl' hb.size
      have x1 : (k : Int) < (n : Int) := by omega
      have x2 : (0 : Int) ≤ (k : Int) := by omega
      clear c0 c1 c2 c3 c0' c1' c2' c3' hx hx' hr hp hq hr' hp' hq' h8
      obtain ⟨wo, hwo⟩ : ∃ wo : World, wo = wr := ⟨_, rfl⟩
      subst hwo
      go_wp2
      refine region_below (DIs (.bool true)) (by kernel_rfl) (by kernel_rfl) ?_
      repeat (first | (refine wpRel_plain rfl (fun K hK => ?_); intro w' hb'; have hc' := bc (Bel.out hb'); go_simp; refine ⟨?_, fun v hv => ?_⟩; (go_at_call 36; refine (sameTooth_FV HT.out.1 HT.out.2 _).mono ?_; rintro e w'' ⟨rfl, hk⟩; exact ⟨_, rfl, rfl, Bel.step hb' hk⟩); (first | (obtain rfl : v = _ := hv) | (obtain rfl : v = _ := (Option.some.inj hv).symm)); (refine hK _ ?_; clear hK K hb' hc')) | (refine wpRel_plain rfl (fun K hK => ?_); intro w' hb'; have hc' := bc (Bel.out hb'); go_simp; (first | refine hK _ ?_ | refine ⟨(by first | exact hb' | exact Bel.drewN hb' _ | exact Bel.alloc hb' _), hK _ ?_⟩); clear hK K hb' hc'))
      (refine wpRel_nil ?_; intro w1 hb1; replace hb1 := Bel.out hb1; have hc1 := bc hb1; have hf1 := bf hb1; have hs1 := hb1.size; (try simp at hs1); (try have hz10 : w.heap.size < w1.heap.size := by omega); (try have hz11 : w.heap.size + 1 < w1.heap.size := by omega); (try have hz12 : w.heap.size + 1 + 1 < w1.heap.size := by omega); (try have hz13 : w.heap.size + 1 + 1 + 1 < w1.heap.size := by omega))
      go_wp2
      go_roundw
      case rel => exact ⟨k + 1, hlt, by go_num, bstep hb hb1⟩
      case measure => simp [intOf]; omega
    · go_wp2
      go_ret
      exact ⟨rfl, hb⟩
theorem sameChanges_any (A B : Option Addr) (c c' n : Nat) (l : List Chg) (w : World) (hA : Kd.C kC w A n l) (hB : Kd.C kC w B n l) (hm : n ≤ 1000) :
    Calls Try.prog 13 #[.slice A n c, .slice B n c'] w fun e w' => e = .returned (.bool true) ∧ Below w.heap.size w w' := by
  have HA := Lib.hid hA
  have HB := Lib.hid hB
  clear hA hB
  go_enter Try.func13, Try.ntmps13
  go_wp2
  go_loopw [5] (fun i wr => ∃ k : Nat, k ≤ n ∧ i = .int .i64 k ∧ Below w.heap.size w wr) (fun i _ => n - (intOf i).toNat)
  case atStart => exact ⟨0, Nat.zero_le _, rfl, Below.refl _ _⟩
  case round =>
    obtain ⟨k, hk, rfl, hb⟩ := hrel
    by_cases hlt : k < n
    · obtain ⟨b, off, p, q, x, rfl, hbl, c0, c1, c2, hx, _⟩ := at_kC HA.out k hlt
      obtain ⟨b', off', p', q', x', rfl, hbl', c0', c1', c2', hx', _⟩ := at_kC HB.out k hlt
      rw [hx] at hx'
      cases hx'
      have d0 := (bc hb b (off + k * 3) hbl).trans c0
      have d1 := (bc hb b (off + k * 3 + 1) hbl).trans c1
      have d2 := (bc hb b (off + k * 3 + 2) hbl).trans c2
      have d0' := (bc hb b' (off' + k * 3) hbl').trans c0'
      have d1' := (bc hb b' (off' + k * 3 + 1) hbl').trans c1'
      have d2' := (bc hb b' (off' + k * 3 + 2) hbl').trans c2'
      have x1 : (k : Int) < (n : Int) := by omega
      have x2 : (0 : Int) ≤ (k : Int) := by omega
      clear c0 c1 c2 c0' c1' c2' hx
      obtain ⟨wo, hwo⟩ : ∃ wo : World, wo = wr := ⟨_, rfl⟩
      subst hwo
      go_wp2
      go_quiet (fail)
      go_wp2
      go_roundw
      case rel => exact ⟨k + 1, hlt, by go_num, by first | exact hb | exact bdrewN hb _⟩
      case measure => simp [intOf]; omega
    · go_wp2
      go_ret
      exact ⟨rfl, hb⟩
theorem sameNums_any (A B : Option Addr) (c c' n : Nat) (xs : List Nat) (w : World) (hA : Kd.C kf w A n xs) (hB : Kd.C kf w B n xs) (hm : n ≤ 1000) :
    Calls Try.prog 20 #[.slice A n c, .slice B n c'] w fun e w' => e = .returned (.bool true) ∧ Below w.heap.size w w' := by
  have HA := Lib.hid hA
  have HB := Lib.hid hB
  clear hA hB
  go_enter Try.func20, Try.ntmps20
  go_wp2
  go_loopw [5] (fun i wr => ∃ k : Nat, k ≤ n ∧ i = .int .i64 k ∧ Below w.heap.size w wr) (fun i _ => n - (intOf i).toNat)
  case atStart => exact ⟨0, Nat.zero_le _, rfl, Below.refl _ _⟩
  case round =>
    obtain ⟨k, hk, rfl, hb⟩ := hrel
    by_cases hlt : k < n
    · obtain ⟨b, off, r, rfl, hbl, c0, hr⟩ := at_kf HA.out k hlt
      obtain ⟨b', off', r', rfl, hbl', c1, hr'⟩ := at_kf HB.out k hlt
      have d0 := (bc hb b (off + k) hbl).trans c0
      have d1 := (bc hb b' (off' + k) hbl').trans c1
      have HR := Lib.hid (And.intro hr hr')
      clear c0 c1 hr hr'
      have x1 : (k : Int) < (n : Int) := by omega
      have x2 : (0 : Int) ≤ (k : Int) := by omega
      obtain ⟨wo, hwo⟩ : ∃ wo : World, wo = wr := ⟨_, rfl⟩
      subst hwo
      go_wp2
      first | refine region_drewN (DIs (.bool true)) (by kernel_rfl) (by kernel_rfl) ?_ | refine region_drew (DIs (.bool true)) (by kernel_rfl) (by kernel_rfl) ?_
      repeat (first | (refine wpRel_plain rfl (fun K hK => ?_); intro w' hw'; obtain ⟨n', rfl⟩ := hw'; go_simp; refine ⟨?_, fun v hv => ?_⟩; (go_at_call 38; refine (l01Same_FV HR.out.1 HR.out.2 _).mono ?_; rintro e w' ⟨rfl, rfl⟩; exact ⟨_, rfl, rfl, Drew.mk _ _⟩); obtain rfl : v = _ := hv; (refine hK _ ?_; clear hK K n')) | (refine wpRel_plain rfl (fun K hK => ?_); intro w' hw'; obtain ⟨n', rfl⟩ := hw'; go_simp; refine ⟨Drew.mk _ _, hK _ ?_⟩; clear hK K n'))
      (refine wpRel_nil ?_; intro w' hw'; obtain ⟨nq, rfl⟩ := hw')
      go_wp2
      go_roundw
      case rel => exact ⟨k + 1, hlt, by go_num, bdrewN hb _⟩
      case measure => simp [intOf]; omega
    · go_wp2
      go_ret
      exact ⟨rfl, hb⟩
theorem count_any (A : Option Addr) (c n : Nat) (l : List Chg) (w : World) (hA : Kd.C kC w A n l) (hm : n ≤ 832) :
    Calls Try.prog 11 #[.slice A n c] w fun e w' => (∃ a b : Int, e = .returned (.tuple #[.int .i64 a, .int .i64 b, .int .i64 0]) ∧ 0 ≤ a ∧ 0 ≤ b ∧ a + b = n) ∧ Below w.heap.size w w' := by
  have HA := Lib.hid hA
  clear hA
  have hm1 : ¬ (832 : Int) < (n : Int) := by omega
  go_enter Try.func11, Try.ntmps11
  go_wp2
  go_loopw [5, 13] (fun f i wr => ∃ k j : Nat, k ≤ n ∧ j ≤ k ∧ i = .int .i64 k ∧ f = .int .i64 j ∧ Below w.heap.size w wr) (fun _ i _ => n - (intOf i).toNat)
  case atStart => exact ⟨0, 0, Nat.zero_le _, Nat.le_refl _, rfl, rfl, Below.refl _ _⟩
  case round =>
    obtain ⟨k, j, hk, hj, rfl, rfl, hb⟩ := hrel
    by_cases hlt : k < n
    · obtain ⟨b, off, p, q, x, rfl, hbl, c0, c1, c2, hx, _⟩ := at_kC HA.out k hlt
      have d0 := (bc hb b (off + k * 3) hbl).trans c0
      have d1 := (bc hb b (off + k * 3 + 1) hbl).trans c1
      have d2 := (bc hb b (off + k * 3 + 2) hbl).trans c2
      have x1 : (k : Int) < (n : Int) := by omega
      have x2 : (0 : Int) ≤ (k : Int) := by omega
      have x3 : (j : Int) ≤ (n : Int) := by omega
      clear c0 c1 c2 hx
      obtain ⟨wo, hwo⟩ : ∃ wo : World, wo = wr := ⟨_, rfl⟩
      subst hwo
      cases x
      · go_wp2
        go_roundw
        case rel => exact ⟨k + 1, j, hlt, by omega, by go_num, rfl, balloc hb _⟩
        case measure => simp [intOf]; omega
      · go_wp2
        go_roundw
        case rel => exact ⟨k + 1, j + 1, hlt, by omega, by go_num, by go_num, balloc hb _⟩
        case measure => simp [intOf]; omega
    · have hkn : k = n := by omega
      subst hkn
      go_wp2
      go_ret3
      exact ⟨⟨_, _, rfl, by omega, by omega, by omega⟩, hb⟩
/-! ### what is drawn -/
structure OkY (t : List (Int × Int × Nat)) (l : List Tth) (lim : Nat) : Prop where
  dr : drawn t
  n1 : 1 ≤ t.length
  n4 : t.length ≤ 4
  te : drawnT l
  len : l.length = t.length
  lm : lim ≤ 1065353216
section
variable {t : List (Int × Int × Nat)} {l : List Tth} {lim : Nat}
theorem OkY.train (h : OkY t l lim) : trainOk t = true := drawn_ok h.dr h.n1 (by have := h.n4; omega)
theorem OkY.part (h : OkY t l lim) : part lim = true := isPt_part h.lm
theorem OkY.FV (h : OkY t l lim) : FV lim lim := nn_FV (by have := h.lm; unfold nn; omega)
theorem OkY.code (h : OkY t l lim) (f : Bool) (hf : f = true) : tcode t l f = 0 := by
  unfold tcode codeT
  rw [if_pos h.train, if_pos (drawnT_all h.te), if_pos hf, decide_eq_true h.len, if_pos rfl]
theorem OkY.out (h : OkY t l lim) {xs : List Nat} (hx : drawnX xs) (hn : xs.length ≤ 104) : outY t l xs lim = ((yrF t l xs lim xs.length).1, (yrF t l xs lim xs.length).2, 0) := by
  unfold outY tcY
  rw [if_pos (h.code _ (by rw [h.part, plain_all hx]; rfl)), if_pos hn]
theorem OkY.at (h : OkY t l lim) {xs : List Nat} (hx : drawnX xs) (n : Nat) : OkY t (yrF t l xs lim n).1 lim :=
  ⟨h.dr, h.n1, h.n4, yr_drawn h.dr h.n4 hx h.te h.len n, (yrF_len t l xs lim n).trans h.len, h.lm⟩
theorem drawnX_one {x : Nat} (hx : x ≤ 1112014848) : drawnX [x] := by
  intro i
  cases i with
  | zero => exact hx
  | succ i => exact Nat.zero_le _
theorem drawnX_rep {x : Nat} (hx : x ≤ 1112014848) (r : Nat) : drawnX (List.replicate r x) := by
  intro i
  rw [List.getD_eq_getElem?_getD, List.getElem?_replicate]
  split
  · exact hx
  · exact Nat.zero_le _
def YrK (n : Nat) (l : List Tth) (cs : List Chg) (w : World) (e : Ending) (w' : World) : Prop :=
  ∃ A c A' c', e = .returned (.tuple #[.slice A n c, .slice A' cs.length c', .int .i64 0]) ∧ Kd.C kT w' A n l ∧ Kd.C kC w' A' cs.length cs ∧ Below w.heap.size w w'
theorem yrK_of {n : Nat} {a : List Tth × List Chg × Int} {l : List Tth} {cs : List Chg} (ha : a = (l, cs, 0)) (hn : l.length = n) {w : World} {e : Ending} {w' : World} (h : YrQ a w e w') : YrK n l cs w e w' := by
  subst ha
  obtain ⟨u, v, rfl, h1, h2, hb⟩ := h
  obtain ⟨A, c, hu, _, hC⟩ := h1.reads
  obtain ⟨A', c', hv, _, hC'⟩ := h2.reads
  have hu' : u = .slice A l.length c := hu
  have hC1 : Kd.C kT w' A l.length l := hC
  rw [hn] at hu' hC1
  subst hu'
  have hv' : v = .slice A' cs.length c' := hv
  subst hv'
  exact ⟨A, c, A', c', rfl, hC1, hC', hb⟩
variable {A B D : Option Addr} {c c' d n : Nat} {w : World}
theorem yearI_ok (h : OkY t l lim) {xs : List Nat} (hx : drawnX xs) (hn : xs.length ≤ 104) (hl : l.length = n) (hA : Kd.C kP w A t.length t) (hB : Kd.C kT w B n l) (hD : Kd.C kf w D xs.length xs) :
    Calls Try.prog 9 #[.slice A t.length c, .slice B n c', .slice D xs.length d, .float .f32 lim] w (YrK n (yrF t l xs lim xs.length).1 (yrF t l xs lim xs.length).2 w) := by
  subst hl
  exact (year_impl A B D c c' d t l xs lim lim h.FV w hA (by have := h.n4; omega) hB (by have := h.n4; have := h.len; omega) hD (by omega)).mono fun _ _ k => yrK_of (h.out hx hn) (yrF_len _ _ _ _ _) k
theorem yearS_ok (h : OkY t l lim) {xs : List Nat} (hx : drawnX xs) (hn : xs.length ≤ 104) (hl : l.length = n) (hA : Kd.C kP w A t.length t) (hB : Kd.C kT w B n l) (hD : Kd.C kf w D xs.length xs) :
    Calls Try.prog 10 #[.slice A t.length c, .slice B n c', .slice D xs.length d, .float .f32 lim] w (YrK n (yrF t l xs lim xs.length).1 (yrF t l xs lim xs.length).2 w) := by
  subst hl
  exact (year_spec A B D c c' d t l xs lim lim h.FV w hA (by have := h.n4; omega) hB (by have := h.n4; have := h.len; omega) hD (by omega)).mono fun _ _ k => yrK_of (h.out hx hn) (yrF_len _ _ _ _ _) k
theorem weekI_ok (h : OkY t l lim) {r x : Nat} (hr : FV r x) (hx : x ≤ 1112014848) (hl : l.length = n) (hA : Kd.C kP w A t.length t) (hB : Kd.C kT w B n l) :
    Calls Try.prog 14 #[.slice A t.length c, .slice B n c', .float .f32 r, .float .f32 lim] w (YrK n (weekL t l x lim l.length) (chgL 0 lim l l.length) w) := by
  subst hl
  exact (weekOf_impl A B c c' t l x r hr lim lim h.FV w hA (by have := h.n4; omega) hB (by have := h.n4; have := h.len; omega)).mono fun _ _ k => yrK_of (outY_one (h.code _ (by rw [h.part, plain_nn (by omega)]; rfl))) (weekL_length _ _ _ _ _) k
theorem weekS_ok (h : OkY t l lim) {r x : Nat} (hr : FV r x) (hx : x ≤ 1112014848) (hl : l.length = n) (hA : Kd.C kP w A t.length t) (hB : Kd.C kT w B n l) :
    Calls Try.prog 15 #[.slice A t.length c, .slice B n c', .float .f32 r, .float .f32 lim] w (YrK n (weekL t l x lim l.length) (chgL 0 lim l l.length) w) := by
  subst hl
  exact (weekOf_spec A B c c' t l x r hr lim lim h.FV w hA (by have := h.n4; omega) hB (by have := h.n4; have := h.len; omega)).mono fun _ _ k => yrK_of (outY_one (h.code _ (by rw [h.part, plain_nn (by omega)]; rfl))) (weekL_length _ _ _ _ _) k
def PlK (n : Nat) (xs : List Nat) (w : World) (e : Ending) (w' : World) : Prop :=
  ∃ A c, e = .returned (.tuple #[.slice A n c, .int .i64 0]) ∧ Kd.C kf w' A n xs ∧ Below w.heap.size w w'
theorem plK_of {n : Nat} {a : List Nat × Int} {xs : List Nat} (ha : a = (xs, 0)) (hn : xs.length = n) {w : World} {e : Ending} {w' : World} (h : POQ a w e w') : PlK n xs w e w' := by
  subst ha
  obtain ⟨u, rfl, h1, hb⟩ := h
  obtain ⟨A, c, hu, _, hC⟩ := h1.reads
  have hu' : u = .slice A xs.length c := hu
  have hC1 : Kd.C kf w' A xs.length xs := hC
  rw [hn] at hu' hC1
  subst hu'
  exact ⟨A, c, rfl, hC1, hb⟩
theorem OkY.plays (h : OkY t l lim) : outPO t l = (l.map wearT, 0) := by unfold outPO; rw [if_pos (h.code true rfl)]
theorem playsI_ok (h : OkY t l lim) (hl : l.length = n) (hA : Kd.C kP w A t.length t) (hB : Kd.C kT w B n l) :
    Calls Try.prog 16 #[.slice A t.length c, .slice B n c'] w (PlK n (l.map wearT) w) := by
  subst hl
  exact (playsOf_impl A B c c' t l w hA (by have := h.n4; omega) hB (by have := h.n4; have := h.len; omega)).mono fun _ _ k => plK_of h.plays (List.length_map _) k
theorem playsS_ok (h : OkY t l lim) (hl : l.length = n) (hA : Kd.C kP w A t.length t) (hB : Kd.C kT w B n l) :
    Calls Try.prog 17 #[.slice A t.length c, .slice B n c'] w (PlK n (l.map wearT) w) := by
  subst hl
  exact (playsOf_spec A B c c' t l w hA (by have := h.n4; omega) hB (by have := h.n4; have := h.len; omega)).mono fun _ _ k => plK_of h.plays (List.length_map _) k
theorem OkY.quiet (h : OkY t l lim) {x : Nat} (hx : x ≤ 1112014848) : outQ t l x lim = (qwF t x lim 104 0 l, 0) := by
  unfold outQ
  rw [if_pos (h.code _ (by rw [h.part, plain_nn (by omega)]; rfl))]
theorem quietI_ok (h : OkY t l lim) {r x : Nat} (hr : FV r x) (hx : x ≤ 1112014848) {k : Int} (hk : qwF t x lim 104 0 l = k) (hl : l.length = n) (hA : Kd.C kP w A t.length t) (hB : Kd.C kT w B n l) :
    Calls Try.prog 18 #[.slice A t.length c, .slice B n c', .float .f32 r, .float .f32 lim] w fun e w' => e = .returned (.tuple #[.int .i64 k, .int .i64 0]) ∧ Below w.heap.size w w' := by
  subst hl
  subst hk
  have := quiet_impl A B c c' t l x r hr lim lim h.FV w hA (by have := h.n4; omega) hB (by have := h.n4; have := h.len; omega)
  rw [h.quiet hx] at this
  exact this
theorem quietS_ok (h : OkY t l lim) {r x : Nat} (hr : FV r x) (hx : x ≤ 1112014848) {k : Int} (hk : qwF t x lim 104 0 l = k) (hl : l.length = n) (hA : Kd.C kP w A t.length t) (hB : Kd.C kT w B n l) :
    Calls Try.prog 19 #[.slice A t.length c, .slice B n c', .float .f32 r, .float .f32 lim] w fun e w' => e = .returned (.tuple #[.int .i64 k, .int .i64 0]) ∧ Below w.heap.size w w' := by
  subst hl
  subst hk
  have := quiet_spec A B c c' t l x r hr lim lim h.FV w hA (by have := h.n4; omega) hB (by have := h.n4; have := h.len; omega)
  rw [h.quiet hx] at this
  exact this
end
end Go.Proofs.Ytgdaompppclnlaa
