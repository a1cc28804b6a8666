/- Choices: wheels and parts. Choices: trains. Choices: the trains and plays of the laws of chapter 6. -/
import Derived.Test.YtgdaompppclnlaaDrwA
import Derived.Test.YtgdaompppclnlaaTrain
import Derived.Test.YtgdaompppclnlaaPlay
namespace Go.Proofs.Ytgdaompppclnlaa
open Go.RowKit Ieee
open Go.Proofs.YtgdaompppclnlaaW.PrintWords
set_option maxRecDepth 100000

def wheels : List Int := [6, 8, 10, 12, 15, 16, 20, 24, 25, 30, 37, 48, 60, 96, 127, 200]
def WheelQ (g m : Nat) (w : World) (e : Ending) (w' : World) : Prop := ∃ i, i < 16 ∧ e = .returned (.int .i16 (wheels.getD i 0)) ∧ Gr g w w' ∧ Src w' g (m + 2)
theorem wheels_bound : ∀ i, i < 16 → 6 ≤ wheels.getD i 0 ∧ wheels.getD i 0 ≤ 200 := by decide
theorem l01Wheel_any (g m : Nat) (w : World) (h : Src w g m) (hm : m ≤ 1000000000) :
    Calls Try.prog 39 #[.pointer (some ⟨g, 0, none⟩)] w (WheelQ g m w) := by
  have HS := Lib.hid h
  have HC : Hid (Kd.C (Kd.int .i64) (w.alloc (.cells #[.int .i64 6, .int .i64 8, .int .i64 10, .int .i64 12, .int .i64 15, .int .i64 16, .int .i64 20, .int .i64 24, .int .i64 25, .int .i64 30, .int .i64 37, .int .i64 48, .int .i64 60, .int .i64 96, .int .i64 127, .int .i64 200] 2)) (some ⟨w.heap.size, 0, none⟩) wheels.length wheels) := Lib.hid (C_lit w wheels 2 (by decide))
  have hlt := h.lt
  clear h
  go_enter Try.func39, Try.ntmps39
  go_wp2_with fail
  go_at_call 60
  refine (among_any g m _ 16 wheels _ (HS.out.below (balloc (Below.refl _ _) _)) hm HC.out (by intro ad he _; injection he with he; subst he; show w.heap.size ≠ g; omega) (by decide) (by decide)).mono ?_
  rintro e w1 ⟨i, hi, rfl, hG1, hS1⟩
  have hi' : i < 16 := hi
  obtain ⟨b1, b2⟩ := wheels_bound i hi'
  obtain ⟨z, hz⟩ : ∃ z, z = wheels.getD i 0 := ⟨_, rfl⟩
  rw [← hz] at b1 b2 ⊢
  replace hz := Lib.hid hz
  replace hS1 := Lib.hid hS1
  replace hG1 := Lib.hid hG1
  go_wp2
  go_ret
  exact ⟨i, hi', by rw [← hz.out]; rfl, ((Gr.refl g w).alloc _).then hG1.out, hS1.out⟩
theorem l01Tone_any (g m : Nat) (w : World) (h : Src w g m) (hm : m ≤ 900000000) :
    Calls Try.prog 40 #[.pointer (some ⟨g, 0, none⟩)] w (ToneQ 4 g m w) := by
  have HS := Lib.hid h
  clear h
  go_enter Try.func40, Try.ntmps40
  go_wp2_with fail
  go_at_call 24
  refine (pick_any g m 4 _ HS.out (by omega) (by omega) (by omega)).mono ?_
  rintro e w1 ⟨x, rfl, hx0, hx1, hG1, hS1⟩
  replace hS1 := Lib.hid hS1
  by_cases h0 : x = 0
  · subst h0
    go_wp2_with fail
    go_at_call 24
    refine (pick_any g (m + 2) 17 _ hS1.out (by omega) (by omega) (by omega)).mono ?_
    rintro e w2 ⟨y, rfl, hy0, hy1, hG2, hS2⟩
    replace hS2 := Lib.hid hS2
    go_wp2_with (refine wpList_fop (o := ⟨some 10, _, _, _, _, _⟩) rfl rfl (by first | exact .inl rfl | exact .inr (.inl rfl) | exact .inr (.inr (.inl rfl)) | exact .inr (.inr (.inr rfl))) rfl rfl ?_; intro r10 n10 h10)
    rw [cn_fi] at h10
    go_ret
    exact ⟨r10, _, rfl, h10, pick_part hy0 (show y ≤ 16 by omega) (by decide) (by decide) (by decide), (hG1.then hG2).drewN _, hS2.out.below (bdrewN (Below.refl _ _) _)⟩
  by_cases h1 : x = 1
  · subst h1
    go_wp2_with fail
    go_at_call 24
    refine (pick_any g (m + 2) 1001 _ hS1.out (by omega) (by omega) (by omega)).mono ?_
    rintro e w2 ⟨y, rfl, hy0, hy1, hG2, hS2⟩
    replace hS2 := Lib.hid hS2
    go_wp2_with (refine wpList_fop (o := ⟨some 16, _, _, _, _, _⟩) rfl rfl (by first | exact .inl rfl | exact .inr (.inl rfl) | exact .inr (.inr (.inl rfl)) | exact .inr (.inr (.inr rfl))) rfl rfl ?_; intro r16 n16 h16)
    rw [cn_fi] at h16
    go_ret
    exact ⟨r16, _, rfl, h16, pick_part hy0 (show y ≤ 1000 by omega) (by decide) (by decide) (by decide), (hG1.then hG2).drewN _, hS2.out.below (bdrewN (Below.refl _ _) _)⟩
  · go_wp2_with fail
    go_at_call 24
    refine (pick_any g (m + 2) 1048576 _ hS1.out (by omega) (by omega) (by omega)).mono ?_
    rintro e w2 ⟨y, rfl, hy0, hy1, hG2, hS2⟩
    replace hS2 := Lib.hid hS2
    go_wp2_with (refine wpList_fop (o := ⟨some 20, _, _, _, _, _⟩) rfl rfl (by first | exact .inl rfl | exact .inr (.inl rfl) | exact .inr (.inr (.inl rfl)) | exact .inr (.inr (.inr rfl))) rfl rfl ?_; intro r20 n20 h20)
    rw [cn_fi] at h20
    go_ret
    exact ⟨r20, _, rfl, h20, pick_part hy0 (show y ≤ 1048576 by omega) (by decide) (by decide) (by decide), (hG1.then hG2).drewN _, hS2.out.below (bdrewN (Below.refl _ _) _)⟩
end Go.Proofs.Ytgdaompppclnlaa
namespace Go.Proofs.Ytgdaompppclnlaa
open Go.RowKit Ieee
open Go.Proofs.YtgdaompppclnlaaW.PrintWords
set_option maxRecDepth 100000
attribute [local irreducible] wpRel

def pairD (p : Int × Int × Nat) : Prop := (∃ a, a < 16 ∧ p.1 = wheels.getD a 0) ∧ (∃ b, b < 16 ∧ p.2.1 = wheels.getD b 0) ∧ isPt p.2.2
def drawn (ts : List (Int × Int × Nat)) : Prop := ∀ i, i < ts.length → pairD (ts.getD i zP)
theorem drawn_nil : drawn [] := fun i h => absurd h (Nat.not_lt_zero i)
theorem drawn_snoc {ts : List (Int × Int × Nat)} (h : drawn ts) {p : Int × Int × Nat} (hp : pairD p) : drawn (ts ++ [p]) := by
  intro i hi
  rw [List.getD_eq_getElem?_getD]
  by_cases hlt : i < ts.length
  · rw [List.getElem?_append_left hlt, ← List.getD_eq_getElem?_getD]; exact h i hlt
  · have : i = ts.length := by simp at hi; omega
    subst this
    simpa using hp
theorem pair_i16 {p : Int × Int × Nat} (h : pairD p) : i16B p.1 p.2.1 := by
  obtain ⟨⟨a, ha, e1⟩, ⟨b, hb, e2⟩, _⟩ := h
  have h1 := wheels_bound a ha
  have h2 := wheels_bound b hb
  unfold i16B
  omega
section
variable {ops : Array Oper} {rest : List Oper} {o : Oper} {a : Act} {Q : Exit → Act → World → Prop}
/-- append(v, x) of one pair, whichever base. -/
theorem apPb (base : Nat) {W : World} {r : Nat} {p q : Int} {z : Nat} (hgd : o.guard = none) (s x : Operand) (ho : o.op = .call { callee := .builtin .append, args := #[s, x], argTypes := #[25, 25] })
    (v : Value) (xs : List (Int × Int × Nat)) (hs : a.eval s = v) (hx : a.eval x = .slice (some ⟨W.heap.size, 0, none⟩) 1 1)
    (HO : RW kP 71 W base v xs) (hb : base ≤ W.heap.size) (hl : xs.length ≤ 1048576) (hp : i16B p q) (hr : FV r z)
    (h : ∀ v1 w1, RW kP 71 w1 base v1 (xs ++ [(p, q, z)]) → W.grownBy w1 v.ownBlock → (v1.ownBlock = v.ownBlock ∨ ∃ b, v1.ownBlock = some b ∧ W.heap.size ≤ b) → wpList Try.prog ops Q rest (a.put o.dst v1) w1) :
    wpList Try.prog ops Q (o :: rest) a (W.alloc (.cells #[.int .i16 p, .int .i16 q, .float .f32 r] 71)) :=
  Kd.R_append kP (w0 := W) base hgd s x 25 71 (.agg #[.int .i16 0, .int .i16 0, .float .f32 0]) 8 ho Try.underlying25 info_pair rfl (by decide) (by decide) v xs (p, q, z) [.int .i16 p, .int .i16 q, .float .f32 r] (fun _ => True) (fun _ => False) hs hx (kP_mkM _ _ _ hp hr) (fun _ h => h.elim) (fun _ _ => trivial) HO (Below.refl _ _) hb (by omega) fun v1 w1 h1 _ h2 h3 => h v1 w1 h1 h2 h3
end
def DrawnQ (most g m : Nat) (w : World) (e : Ending) (w' : World) : Prop :=
  ∃ v ts, e = .returned v ∧ RW kP 71 w' w.heap.size v ts ∧ 1 ≤ ts.length ∧ ts.length ≤ most ∧ drawn ts ∧ Gr g w w' ∧ Src w' g (m + 200)
set_option maxHeartbeats 4000000 in
theorem l01Drawn_any (g m most : Nat) (w : World) (h : Src w g m) (hm : m ≤ 800000000) (h1 : 1 ≤ most) (h8 : most ≤ 8) :
    Calls Try.prog 21 #[.pointer (some ⟨g, 0, none⟩), .int .i64 (most : Int)] w (DrawnQ most g m w) := by
  have HS := Lib.hid h
  have hlt := h.lt
  clear h
  go_enter Try.func21, Try.ntmps21
  go_wp2_with fail
  go_at_call 24
  refine (pick_any g m (most : Int) _ (HS.out.below (by (repeat (first | with_reducible exact Below.refl _ _ | with_reducible refine bset ?_ (by first | (simp; done) | (simp; omega) | omega) _ | with_reducible refine balloc ?_ _ | with_reducible refine bdrewN ?_ _ | with_reducible refine bdrew ?_ | with_reducible refine bstep ?_ (by assumption))))) (by omega) (by omega) (by omega)).mono ?_
  rintro e w1 ⟨x, rfl, hx0, hx1, hG1, hS1⟩
  obtain ⟨N, hN⟩ : ∃ N : Nat, x + 1 = N := ⟨(x + 1).toNat, by omega⟩
  obtain rfl : x = (N : Int) - 1 := by omega
  have hN1 : 1 ≤ N := by omega
  have hN2 : N ≤ most := by omega
  have hwr : IntKind.i64.wrap ((N : Int) - 1 + 1) = (N : Int) := by rw [show (N : Int) - 1 + 1 = N by omega]; exact IntWalk.i64_in _ (by omega)
  have HR0 : Hid (RW kP 71 w1 w.heap.size (.slice (some ⟨w.heap.size, 0, none⟩) 0 0) []) := Lib.hid ((RW.empty (w := w.alloc (.cells #[] 71)) kP 71 w.heap.size w.heap.size (heap_alloc_new w _) (Nat.le_refl _)).gr rfl hG1 hlt)
  have HG1 : Hid (Gr g w w1) := Lib.hid (((Gr.refl g w).alloc _).then hG1)
  replace hS1 := Lib.hid hS1
  clear hG1
  go_wp2
  go_loopw [5, 6] (fun v i wr => ∃ (j : Nat) (ts : List (Int × Int × Nat)), j ≤ N ∧ ts.length = j ∧ i = .int .i64 ((N : Int) - j) ∧ Hid (RW kP 71 wr w.heap.size v ts) ∧ Hid (Gr g w wr) ∧ Hid (drawn ts) ∧ Hid (Src wr g (m + 2 + 12 * j))) (fun _ i _ => (intOf i).toNat)
  case atStart => exact ⟨0, [], Nat.zero_le _, rfl, by go_num, HR0, HG1, Lib.hid drawn_nil, hS1⟩
  case round =>
    obtain ⟨j, ts, hj, hts, rfl, HR, HG, HD, HSr⟩ := hrel
    by_cases hlt2 : j < N
    · have hw1 : IntKind.i64.wrap ((N : Int) - j - 1) = (N : Int) - (j + 1 : Nat) := by rw [show (N : Int) - j - 1 = (N : Int) - (j + 1 : Nat) by omega]; exact IntWalk.i64_in _ (by omega)
      have hpos : (0 : Int) < (N : Int) - j := by omega
      go_wp2_with fail
      go_at_call 39
      refine (l01Wheel_any g _ _ HSr.out (by omega)).mono ?_
      rintro e w2 ⟨a1, ha1, rfl, hG2, hS2⟩
      obtain ⟨p, hp⟩ : ∃ p, p = wheels.getD a1 0 := ⟨_, rfl⟩
      rw [← hp]
      replace hS2 := Lib.hid hS2
      replace hG2 := Lib.hid hG2
      replace hp := Lib.hid hp
      go_wp2_with fail
      go_at_call 39
      refine (l01Wheel_any g _ _ hS2.out (by omega)).mono ?_
      rintro e w3 ⟨a2, ha2, rfl, hG3, hS3⟩
      obtain ⟨q, hq⟩ : ∃ q, q = wheels.getD a2 0 := ⟨_, rfl⟩
      rw [← hq]
      have hlt3 := hS3.lt
      have hszz : w.heap.size ≤ w3.heap.size := by have := HG.out.size; have := hG2.out.size; have := hG3.size; omega
      replace hS3 := Lib.hid hS3
      have HR3 := Lib.hid ((HR.out.gr rfl hG2.out hlt).gr rfl hG3 hlt)
      replace hG3 := Lib.hid (((HG.out).then hG2.out).then hG3)
      replace hq := Lib.hid hq
      have hpb := Lib.hid (HR3.out.lt)
      have hgw : g < w3.heap.size := hlt3
      have hp16 : i16B p q := by
        have h1 := wheels_bound a1 ha1
        have h2 := wheels_bound a2 ha2
        rw [← hp.out] at h1
        rw [← hq.out] at h2
        unfold i16B
        omega
      have HL := Lib.hid (show ts.length ≤ 1048576 by omega)
      go_wp2_with fail
      go_at_call 40
      refine (l01Tone_any g _ _ (hS3.out.below (balloc (Below.refl _ _) _)) (by omega)).mono ?_
      rintro e w5 ⟨r, x, rfl, hr, hpt, hG5, hS5⟩
      have hs3 : w3.heap.size < (w3.alloc (.cells #[.int .i16 p, .int .i16 q, .float .f32 0] 71)).heap.size := by simp
      have hne : w3.heap.size ≠ g := by omega
      have d0 := (gcell hG5 w3.heap.size 0 hs3 hne).trans (World.cell?_alloc_at _ _ _ _ rfl)
      have d1 := (gcell hG5 w3.heap.size 1 hs3 hne).trans (World.cell?_alloc_at _ _ _ _ rfl)
      have d2 := (gcell hG5 w3.heap.size 2 hs3 hne).trans (World.cell?_alloc_at _ _ _ _ rfl)
      have f0 : w5.frozen? ⟨w3.heap.size, 2, none⟩ = false := (gfroz hG5 w3.heap.size 2 hs3 hne).trans (by go_simp)
      have hs5 : w3.heap.size < w5.heap.size := Nat.lt_of_lt_of_le hs3 hG5.size
      have HR5 := Lib.hid ((HR3.out.alloc _).gr rfl hG5 hlt)
      have HG5 := Lib.hid (((hG3.out).alloc _).then hG5)
      replace hS5 := Lib.hid hS5
      simp at d0 d1 d2
      clear hG5 HR3 hs3 hS3 hG3 hS2 hG2 HSr HR HG
      generalize hpbe : w3.heap.size = pb at *
      clear hpbe
      go_wp2_with fail
      go_at_call 41
      refine (one_any g _ 2 _ (hS5.out.set hgw _) (by omega) (by decide) (by decide)).mono ?_
      rintro e w6 ⟨bb, rfl, hG6, hS6⟩
      have hs6 : pb < (w5.setCell ⟨pb, 2, none⟩ (.float .f32 r)).heap.size := by simpa using hs5
      have e0 : w6.cell? ⟨pb, 0, none⟩ = some (.int .i16 p) := (gcell hG6 pb 0 hs6 hne).trans (by go_simp)
      have e1 : w6.cell? ⟨pb, 1, none⟩ = some (.int .i16 q) := (gcell hG6 pb 1 hs6 hne).trans (by go_simp)
      have e2 : w6.cell? ⟨pb, 2, none⟩ = some (.float .f32 r) := (gcell hG6 pb 2 hs6 hne).trans (by go_simp)
      have e3 : w6.frozen? ⟨pb, 2, none⟩ = false := (gfroz hG6 pb 2 hs6 hne).trans (by go_simp)
      have hs7 : pb < w6.heap.size := Nat.lt_of_lt_of_le hs6 hG6.size
      have HR6 := Lib.hid ((HR5.out.setOut rfl (fun k hk => by have := hpb.out k hk; omega) _ : RW kP 71 (w5.setCell ⟨pb, 2, none⟩ (.float .f32 r)) w.heap.size u5 ts).gr rfl hG6 hlt)
      have HG6 := Lib.hid (((HG5.out).set (.inr hszz) _ : Gr g w (w5.setCell ⟨pb, 2, none⟩ (.float .f32 r))).then hG6)
      have HS6 := Lib.hid hS6
      clear hG6 hS6 d0 d1 d2 f0 hs5 HR5 HG5 hS5 hs6
      have HFR := Lib.hid hr
      have HPT := Lib.hid hpt
      clear hr hpt
      cases bb
      · skip
        go_wp2_with (at_builtin; go_must ((refine apPb w.heap.size (o := ⟨some 35, _, _, _, _, _⟩) rfl (.tmp 32) (.tmp 34) rfl u5 ts ?y35 ?x35 ?o35 ?b35 HL.out hp16 HFR.out ?_; (case y35 => rfl); (case x35 => go_simp); (case o35 => exact HR6.out); (case b35 => have := HG6.out.size ; simp ; omega); intro v35 w35 ho_ hg_ hat_; have HO35 := Lib.hid ho_; have HG35 := Lib.hid (And.intro hg_ hat_); clear ho_ hg_ hat_)))
        go_roundw
        case rel =>
          refine ⟨j + 1, ts ++ [(p, q, x)], hlt2, by simp [hts], by go_num, HO35, Lib.hid (Gr.grown HG6.out HG35.out.1 (fun k hk => .inr (HR6.out.base_le k hk))), Lib.hid (drawn_snoc HD.out ⟨⟨a1, ha1, hp.out⟩, ⟨a2, ha2, hq.out⟩, HPT.out⟩), Lib.hid ((HS6.out.grown HG35.out.1 (fun k hk => Nat.lt_of_lt_of_le hlt (HR6.out.base_le k hk))).up (by omega))⟩
        case measure => simp [intOf]; omega
      · go_wp2_with fail
        go_at_call 24
        refine (pick_any g _ 5 _ HS6.out (by omega) (by decide) (by decide)).mono ?_
        rintro e w7 ⟨y, rfl, hy0, hy1, hG7, hS7⟩
        have d0 := (gcell hG7 pb 0 hs7 hne).trans e0
        have d1 := (gcell hG7 pb 1 hs7 hne).trans e1
        have d2 := (gcell hG7 pb 2 hs7 hne).trans e2
        have d3 := (gfroz hG7 pb 2 hs7 hne).trans e3
        have hs8 : pb < w7.heap.size := Nat.lt_of_lt_of_le hs7 hG7.size
        have HR7 := Lib.hid (HR6.out.gr rfl hG7 hlt)
        have HG7 := Lib.hid (HG6.out.then hG7)
        have HS7 := Lib.hid hS7
        have HPV : Hid (isPt (fdiv (fi y) (cn 1115684864))) := Lib.hid (pick_part hy0 (show y ≤ 64 by omega) (by decide) (by decide) (by decide))
        clear hG7 hS7 e0 e1 e2 e3 hs7 HR6 HG6 HS6
        go_wp2_with (first | ((refine wpList_fop (o := ⟨some 30, _, _, _, _, _⟩) rfl rfl (by first | exact .inl rfl | exact .inr (.inl rfl) | exact .inr (.inr (.inl rfl)) | exact .inr (.inr (.inr rfl))) rfl rfl ?_; intro r30 n30 h30); rw [cn_fi] at h30; have HV := Lib.hid h30; clear h30) | (at_builtin; go_must ((refine apPb w.heap.size (o := ⟨some 35, _, _, _, _, _⟩) rfl (.tmp 32) (.tmp 34) rfl u5 ts ?y35 ?x35 ?o35 ?b35 HL.out hp16 HV.out ?_; (case y35 => rfl); (case x35 => go_simp); (case o35 => refine RW.setOut ?_ rfl (fun k hk => by have := hpb.out k hk ; omega) _ ; apply RW.drewN ; exact HR7.out); (case b35 => have := HG7.out.size ; simp ; omega); intro v35 w35 ho_ hg_ hat_; have HO35 := Lib.hid ho_; have HG35 := Lib.hid (And.intro hg_ hat_); clear ho_ hg_ hat_))))
        go_roundw
        case rel =>
          refine ⟨j + 1, ts ++ [(p, q, _)], hlt2, by simp [hts], by go_num, HO35, Lib.hid (Gr.grown ((HG7.out.drewN _).set (.inr hszz) _) HG35.out.1 (fun k hk => .inr (HR7.out.base_le k hk))), Lib.hid (drawn_snoc HD.out ⟨⟨a1, ha1, hp.out⟩, ⟨a2, ha2, hq.out⟩, HPV.out⟩), Lib.hid (((((HS7.out.below (bdrewN (Below.refl _ _) _)).set hgw _)).grown HG35.out.1 (fun k hk => Nat.lt_of_lt_of_le hlt (HR7.out.base_le k hk))).up (by omega))⟩
        case measure => simp [intOf]; omega
    · have hjN : j = N := by omega
      subst hjN
      go_wp2
      go_ret
      exact ⟨_, ts, rfl, HR.out, by omega, by omega, HD.out, HG.out, HSr.out.up (by omega)⟩
end Go.Proofs.Ytgdaompppclnlaa
namespace Go.Proofs.Ytgdaompppclnlaa
open Go.RowKit Ieee
open Go.Proofs.YtgdaompppclnlaaW.PrintWords
set_option maxRecDepth 100000
attribute [local irreducible] wpRel

theorem f6big_any (A : Option Addr) (n c : Nat) (hn : n ≤ 9223372036854775807) (w : World) :
    Calls Try.prog 4 #[.slice A n c] w fun e w' => e = .returned (.bool (decide ((4096 : Int) < n))) ∧ w = w' := by
  go_enter Try.func4, Try.ntmps4
  go_wp2
  go_ret
  exact ⟨rfl, rfl⟩
def TrainQ (w : World) (e : Ending) (w' : World) : Prop :=
  ∃ v ts, e = .returned v ∧ RW kP 71 w' w.heap.size v ts ∧ 1 ≤ ts.length ∧ ts.length ≤ 4 ∧ drawn ts ∧ Below w.heap.size w w'
theorem p6Train_any (A : Option Addr) (c : Nat) (xs : List Int) (w : World) (hA : Bytes w A xs) :
    Calls Try.prog 5 #[.slice A xs.length c] w (TrainQ w) := by
  have HA := Lib.hid hA
  clear hA
  go_enter Try.func5, Try.ntmps5
  go_wp2_with fail
  go_at_call 22
  refine (l00From_any A c xs w HA.out.row HA.out.bound HA.out.len).mono ?_
  rintro e w1 ⟨rfl, hb1, hS1⟩
  replace hS1 := Lib.hid hS1
  go_wp2_with fail
  go_at_call 21
  refine (l01Drawn_any _ 0 4 _ hS1.out (by decide) (by decide) (by decide)).mono ?_
  rintro e w2 ⟨v, ts, rfl, hR, h1, h4, hd, hG, _⟩
  have HR := Lib.hid hR
  have HG := Lib.hid hG
  clear hR hG
  go_wp2
  go_ret
  exact ⟨v, ts, rfl, HR.out.lower hb1.size, h1, h4, hd, Gr.below hb1 HG.out (Nat.le_refl _)⟩
section
variable {ops : Array Oper} {rest : List Oper} {o : Oper} {a : Act} {Q : Exit → Act → World → Prop}
/-- append(v, x) of one float, whichever base. -/
theorem apFb (base : Nat) {W : World} {p r : Nat} (hgd : o.guard = none) (s x : Operand) (ho : o.op = .call { callee := .builtin .append, args := #[s, x], argTypes := #[29, 29] })
    (v : Value) (xs : List Nat) (hs : a.eval s = v) (hx : a.eval x = .slice (some ⟨W.heap.size, 0, none⟩) 1 1)
    (HO : RW kf 31 W base v xs) (hb : base ≤ W.heap.size) (hl : xs.length ≤ 1048576) (hp : FV r p)
    (h : ∀ v1 w1, RW kf 31 w1 base v1 (xs ++ [p]) → W.grownBy w1 v.ownBlock → (v1.ownBlock = v.ownBlock ∨ ∃ b, v1.ownBlock = some b ∧ W.heap.size ≤ b) → wpList Try.prog ops Q rest (a.put o.dst v1) w1) :
    wpList Try.prog ops Q (o :: rest) a (W.alloc (.cells #[.float .f32 r] 31)) :=
  Kd.R_append kf (w0 := W) base hgd s x 29 31 (.float .f32 0) 4 ho Try.underlying29 info_f32 rfl (by decide) (by decide) v xs p [.float .f32 r] (fun _ => True) (fun _ => False) hs hx ⟨r, rfl, hp⟩ (fun _ h => h.elim) (fun _ _ => trivial) HO (Below.refl _ _) hb (by omega) fun v1 w1 h1 _ h2 h3 => h v1 w1 h1 h2 h3
end
def isPts (ps : List Nat) : Prop := ∀ i, isPt (ps.getD i 0)
theorem isPts_nil : isPts [] := fun i => by show isPt 0; unfold isPt; omega
theorem isPts_snoc {ps : List Nat} (h : isPts ps) {x : Nat} (hx : isPt x) : isPts (ps ++ [x]) := by
  intro i
  rw [List.getD_eq_getElem?_getD]
  rcases Nat.lt_trichotomy i ps.length with hlt | rfl | hgt
  · rw [List.getElem?_append_left hlt, ← List.getD_eq_getElem?_getD]; exact h i
  · simpa using hx
  · rw [List.getElem?_eq_none (by simp; omega)]; show isPt 0; unfold isPt; omega
def PlaysQ (n : Nat) (w : World) (e : Ending) (w' : World) : Prop :=
  ∃ v ps, e = .returned v ∧ FR w' w.heap.size v ps ∧ ps.length = n ∧ isPts ps ∧ Below w.heap.size w w'
/-! ### what is drawn is valid -/
theorem wheels_good : ∀ a, a < 16 → ∀ b, b < 16 → (decide (0 < upV (wheels.getD a 0) (wheels.getD b 0)) && decide (upV (wheels.getD a 0) (wheels.getD b 0) < 2139095040)) = true := by decide +kernel
theorem drawn_ok {ts : List (Int × Int × Nat)} (h : drawn ts) (h1 : 1 ≤ ts.length) (h8 : ts.length ≤ 8) : trainOk ts = true := by
  unfold trainOk
  have hi : iin (ts.length : Int) 1 8 = true := by unfold iin; simp; omega
  rw [hi, Bool.true_and, List.all_eq_true]
  intro p hp
  obtain ⟨i, hi, rfl⟩ := List.getElem_of_mem hp
  have hd := h i hi
  rw [List.getD_eq_getElem?_getD, List.getElem?_eq_getElem hi] at hd
  obtain ⟨⟨a, ha, e1⟩, ⟨b, hb, e2⟩, e3⟩ := hd
  have h1 := wheels_bound a ha
  have h2 := wheels_bound b hb
  simp only [Option.getD_some] at e1 e2 e3
  rw [← e1] at h1
  rw [← e2] at h2
  unfold pairOk pairB
  rw [isPt_part e3]
  unfold iin
  simp
  omega
end Go.Proofs.Ytgdaompppclnlaa
