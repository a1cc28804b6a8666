/- Choices: lines of discs. -/
import Derived.Test.YthdmfmhhnacgfaaDrwA
import Derived.Test.YthdmfmhhnacgfaaLnLaw
namespace Go.Proofs.Ythdmfmhhnacgfaa
open Go.RowKit Ieee
open Go.Proofs.YthdmfmhhnacgfaaW.PrintWords
set_option maxRecDepth 100000
attribute [local irreducible] wpRel
section
variable {ops : Array Oper} {rest : List Oper} {o : Oper} {a : Act} {Q : Exit → Act → World → Prop}
/-- append(v, x) of one disc, whichever base. -/
theorem apDb (base : Nat) {W : World} {r r' p q : Nat} (hgd : o.guard = none) (s x : Operand) (ho : o.op = .call { callee := .builtin .append, args := #[s, x], argTypes := #[24, 24] })
    (v : Value) (xs : List (Nat × Nat)) (hs : a.eval s = v) (hx : a.eval x = .slice (some ⟨W.heap.size, 0, none⟩) 1 1)
    (HO : RW kD 48 W base v xs) (hb : base ≤ W.heap.size) (hl : xs.length ≤ 1048576) (hr : FV r p) (hr' : FV r' q)
    (h : ∀ v1 w1, RW kD 48 w1 base v1 (xs ++ [(p, q)]) → W.grownBy w1 v.ownBlock → (v1.ownBlock = v.ownBlock ∨ ∃ b, v1.ownBlock = some b ∧ W.heap.size ≤ b) → wpList Try.prog ops Q rest (a.put o.dst v1) w1) :
    wpList Try.prog ops Q (o :: rest) a (W.alloc (.cells #[.float .f32 r, .float .f32 r'] 48)) :=
  Kd.R_append kD (w0 := W) base hgd s x 24 48 (.agg #[.float .f32 0, .float .f32 0]) 8 ho Try.underlying24 info_disc rfl (by decide) (by decide) v xs (p, q) [.float .f32 r, .float .f32 r'] (fun _ => True) (fun _ => False) hs hx (kD_mkM _ _ _ hr hr') (fun _ h => h.elim) (fun _ _ => trivial) HO (Below.refl _ _) hb (by omega) fun v1 w1 h1 _ h2 h3 => h v1 w1 h1 h2 h3
end
theorem inertia_at {y z : Int} {i : Nat} (h0 : 0 ≤ y) (h1 : y < 20) (hi : i < 3) (hz : z = ([1, 3, 4] : List Int).getD i 0) : 1015021568 ≤ fdiv (fi (1 + y)) (fi z) ∧ fdiv (fi (1 + y)) (fi z) ≤ 1149239296 := by
  subst hz
  obtain ⟨v, rfl⟩ : ∃ v : Nat, y = v := ⟨y.toNat, by omega⟩
  have := inertia_ok v (by omega) i hi
  rw [Int.add_comm]
  simpa only [Bool.and_eq_true, decide_eq_true_eq] using this
theorem stiff_at {y z : Int} {i : Nat} (h0 : 0 ≤ y) (h1 : y < 200) (hi : i < 3) (hz : z = ([1, 3, 8] : List Int).getD i 0) : 1015021568 ≤ fdiv (fi (1 + y)) (fi z) ∧ fdiv (fi (1 + y)) (fi z) ≤ 1233125376 := by
  subst hz
  obtain ⟨v, rfl⟩ : ∃ v : Nat, y = v := ⟨y.toNat, by omega⟩
  have := stiff_ok v (by omega) i hi
  rw [Int.add_comm]
  simpa only [Bool.and_eq_true, decide_eq_true_eq] using this
def DiscsQ (g m : Nat) (w : World) (e : Ending) (w' : World) : Prop :=
  ∃ v ls, e = .returned v ∧ RW kD 48 w' w.heap.size v ls ∧ 2 ≤ ls.length ∧ ls.length ≤ 5 ∧ drawnL ls ∧ Gr g w w' ∧ Src w' g (m + 200)
set_option maxHeartbeats 4000000 in
theorem l07Discs_any (g m : Nat) (w : World) (h : Src w g m) (hm : m ≤ 800000000) :
    Calls Try.prog 16 #[.pointer (some ⟨g, 0, none⟩)] w (DiscsQ g m w) := by
  have HS := Lib.hid h
  have hlt := h.lt
  clear h
  go_enter Try.func16, Try.ntmps16
  go_wp2_with fail
  go_at_call 36
  refine (pick_any g m 4 _ (HS.out.below (by (repeat (first | with_reducible exact Below.refl _ _ | with_reducible refine bset ?_ (by first | (simp; done) | (simp; omega) | omega) _ | with_reducible refine balloc ?_ _ | with_reducible refine bdrewN ?_ _ | with_reducible refine bdrew ?_ | with_reducible refine bstep ?_ (by assumption))))) (by omega) (by omega) (by omega)).mono ?_
  rintro e w1 ⟨x, rfl, hx0, hx1, hG1, hS1⟩
  obtain ⟨N, hN⟩ : ∃ N : Nat, 2 + x = N := ⟨(2 + x).toNat, by omega⟩
  obtain rfl : x = (N : Int) - 2 := by omega
  have hN1 : 2 ≤ N := by omega
  have hN2 : N ≤ 5 := by omega
  have hwr : IntKind.i64.wrap (2 + ((N : Int) - 2)) = (N : Int) := by rw [show 2 + ((N : Int) - 2) = N by omega]; exact IntWalk.i64_in _ (by omega)
  have HR0 : Hid (RW kD 48 w1 w.heap.size (.slice (some ⟨w.heap.size, 0, none⟩) 0 0) []) := Lib.hid ((RW.empty (w := w.alloc (.cells #[] 48)) kD 48 w.heap.size w.heap.size (heap_alloc_new w _) (Nat.le_refl _)).gr rfl hG1 hlt)
  have HG1 : Hid (Gr g w w1) := Lib.hid (((Gr.refl g w).alloc _).then hG1)
  replace hS1 := Lib.hid hS1
  clear hG1
  go_wp2
  go_loopw [3, 4] (fun v i wr => ∃ (j : Nat) (ls : List (Nat × Nat)), j ≤ N ∧ ls.length = j ∧ i = .int .i64 ((N : Int) - j) ∧ Hid (RW kD 48 wr w.heap.size v ls) ∧ Hid (Gr g w wr) ∧ Hid (drawnL ls) ∧ Hid (Src wr g (m + 2 + 20 * j))) (fun _ i _ => (intOf i).toNat)
  case atStart => exact ⟨0, [], Nat.zero_le _, rfl, by go_num, HR0, HG1, Lib.hid drawnL_nil, hS1⟩
  case round =>
    obtain ⟨j, ls, hj, hls, rfl, HR, HG, HD, HSr⟩ := hrel
    by_cases hlt2 : j < N
    · have hw1 : IntKind.i64.wrap ((N : Int) - j - 1) = (N : Int) - (j + 1 : Nat) := by rw [show (N : Int) - j - 1 = (N : Int) - (j + 1 : Nat) by omega]; exact IntWalk.i64_in _ (by omega)
      have hpos : (0 : Int) < (N : Int) - j := by omega
      have HL := Lib.hid (show ls.length ≤ 1048576 by omega)
      go_wp2_with fail
      go_at_call 36
      refine (pick_any g _ 20 _ HSr.out (by omega) (by omega) (by omega)).mono ?_
      rintro e w2 ⟨y, rfl, hy0, hy1, hG2, hS2⟩
      have hwy : IntKind.i64.wrap (1 + y) = 1 + y := IntWalk.i64_in _ (by omega)
      have hlt3 := hS2.lt
      have HR2 := Lib.hid (HR.out.gr rfl hG2 hlt)
      have HG2 := Lib.hid (HG.out.then hG2)
      replace hS2 := Lib.hid hS2
      clear hG2 HR HG HSr
      go_wp2_with fail
      go_at_call 37
      refine (among_any g _ _ 3 [1, 3, 4] _ (hS2.out.below (balloc (Below.refl _ _) _)) (by omega) (C_lit w2 [1, 3, 4] 2 (by decide)) (by intro ad he _; injection he with he; subst he; show w2.heap.size ≠ g; omega) (by decide) (by decide)).mono ?_
      rintro e w3 ⟨i1, hi1, rfl, hG3, hS3⟩
      have hi1' : i1 < 3 := hi1
      obtain ⟨z, hz⟩ : ∃ z, z = ([1, 3, 4] : List Int).getD i1 0 := ⟨_, rfl⟩
      rw [← hz]
      have hlt4 := hS3.lt
      have HR3 := Lib.hid ((HR2.out.alloc _).gr rfl hG3 hlt)
      have HG3 := Lib.hid ((HG2.out.alloc _).then hG3)
      replace hS3 := Lib.hid hS3
      replace hz := Lib.hid hz
      have HI := Lib.hid (inertia_at hy0 hy1 hi1' hz.out)
      clear hG3 HR2 HG2 hS2 hlt3
      go_wp2_with ((refine wpList_fop (o := ⟨some 22, _, _, _, _, _⟩) rfl rfl (by first | exact .inl rfl | exact .inr (.inl rfl) | exact .inr (.inr (.inl rfl)) | exact .inr (.inr (.inr rfl))) rfl rfl ?_; intro r22 n22 h22); simp only [cn_of_not (fi_isn _)] at h22; have HV22 := Lib.hid h22; clear h22; obtain ⟨w4, hw4⟩ : ∃ w4, w4 = w3.drewN n22 := ⟨_, rfl⟩; have hS4 := Lib.hid (hS3.out.below (bdrewN (Below.refl _ _) n22)); have HR4 := Lib.hid (HR3.out.drewN n22); have HG4 := Lib.hid (HG3.out.drewN n22); rw [← hw4] at hS4 HR4 HG4 ⊢; clear hw4)
      have hszz : w.heap.size ≤ w4.heap.size := HG4.out.size
      have hpb := Lib.hid (HR4.out.lt)
      have hlt5 := hS4.out.lt
      go_at_call 36
      refine (pick_any g _ 200 _ (hS4.out.below (balloc (Below.refl _ _) _)) (by omega) (by omega) (by omega)).mono ?_
      rintro e w5 ⟨y2, rfl, hy20, hy21, hG5, hS5⟩
      have hwy2 : IntKind.i64.wrap (1 + y2) = 1 + y2 := IntWalk.i64_in _ (by omega)
      have hs3 : w4.heap.size < (w4.alloc (.cells #[.float .f32 r22, .float .f32 0] 48)).heap.size := by simp
      have hne : w4.heap.size ≠ g := by omega
      have d0 := (gcell hG5 w4.heap.size 0 hs3 hne).trans (World.cell?_alloc_at _ _ _ _ rfl)
      have d1 := (gcell hG5 w4.heap.size 1 hs3 hne).trans (World.cell?_alloc_at _ _ _ _ rfl)
      have f0 : w5.frozen? ⟨w4.heap.size, 1, none⟩ = false := (gfroz hG5 w4.heap.size 1 hs3 hne).trans (by go_simp)
      have hs5 : w4.heap.size < w5.heap.size := Nat.lt_of_lt_of_le hs3 hG5.size
      have HR5 := Lib.hid ((HR4.out.alloc _).gr rfl hG5 hlt)
      have HG5 := Lib.hid (((HG4.out).alloc _).then hG5)
      replace hS5 := Lib.hid hS5
      simp at d0 d1
      clear hG5 HR4 hs3 hS4 HG4 hS3 HG3 HR3
      generalize hpbe : w4.heap.size = pb at *
      clear hpbe
      go_wp2_with fail
      go_at_call 37
      refine (among_any g _ _ 3 [1, 3, 8] _ (hS5.out.below (balloc (Below.refl _ _) _)) (by omega) (C_lit w5 [1, 3, 8] 2 (by decide)) (by intro ad he _; injection he with he; subst he; have := hS5.out.lt; show w5.heap.size ≠ g; omega) (by decide) (by decide)).mono ?_
      rintro e w6 ⟨i2, hi2, rfl, hG6, hS6⟩
      have hi2' : i2 < 3 := hi2
      obtain ⟨z2, hz2⟩ : ∃ z, z = ([1, 3, 8] : List Int).getD i2 0 := ⟨_, rfl⟩
      rw [← hz2]
      have hs5' : pb < (w5.alloc (.cells #[.int .i64 1, .int .i64 3, .int .i64 8] 2)).heap.size := by simp; omega
      have e0 : w6.cell? ⟨pb, 0, none⟩ = some (.float .f32 r22) := (gcell hG6 pb 0 hs5' hne).trans (by go_simp)
      have e1 : w6.cell? ⟨pb, 1, none⟩ = some (.float .f32 0) := (gcell hG6 pb 1 hs5' hne).trans (by go_simp)
      have e2 : w6.frozen? ⟨pb, 1, none⟩ = false := (gfroz hG6 pb 1 hs5' hne).trans (by go_simp)
      have hs6 : pb < w6.heap.size := Nat.lt_of_lt_of_le hs5' hG6.size
      have HR6 := Lib.hid ((HR5.out.alloc _).gr rfl hG6 hlt)
      have HG6 := Lib.hid ((HG5.out.alloc _).then hG6)
      replace hS6 := Lib.hid hS6
      replace hz2 := Lib.hid hz2
      have HI2 := Lib.hid (stiff_at hy20 hy21 hi2' hz2.out)
      clear hG6 HR5 HG5 hS5 d0 d1 f0 hs5 hs5'
      go_wp2_with (first | ((refine wpList_fop (o := ⟨some 32, _, _, _, _, _⟩) rfl rfl (by first | exact .inl rfl | exact .inr (.inl rfl) | exact .inr (.inr (.inl rfl)) | exact .inr (.inr (.inr rfl))) rfl rfl ?_; intro r32 n32 h32); simp only [cn_of_not (fi_isn _)] at h32; have HV32 := Lib.hid h32; clear h32) | (at_builtin; go_must ((refine apDb w.heap.size (o := ⟨some 37, _, _, _, _, _⟩) rfl (.tmp 34) (.tmp 36) rfl u3 ls ?y37 ?x37 ?o37 ?b37 HL.out HV22.out HV32.out ?_; (case y37 => rfl); (case x37 => go_simp); (case o37 => refine RW.setOut ?_ rfl (fun k hk => by have := hpb.out k hk ; omega) _ ; apply RW.drewN ; exact HR6.out); (case b37 => have := HG6.out.size ; simp ; omega); intro v37 w37 ho_ hg_ hat_; have HO37 := Lib.hid ho_; have HG37 := Lib.hid (And.intro hg_ hat_); clear ho_ hg_ hat_))))
      go_roundw
      case rel =>
        refine ⟨j + 1, ls ++ [(_, _)], hlt2, by simp [hls], by go_num, HO37, Lib.hid (Gr.grown ((HG6.out.drewN _).set (.inr hszz) _) HG37.out.1 (fun k hk => .inr (HR6.out.base_le k hk))), Lib.hid (drawnL_snoc HD.out ⟨HI.out, HI2.out⟩), Lib.hid (((((hS6.out.below (bdrewN (Below.refl _ _) _)).set (by omega) _)).grown HG37.out.1 (fun k hk => Nat.lt_of_lt_of_le hlt (HR6.out.base_le k hk))).up (by omega))⟩
      case measure => simp [intOf]; omega
    · have hjN : j = N := by omega
      subst hjN
      go_wp2
      go_ret
      exact ⟨_, ls, rfl, HR.out, by omega, by omega, HD.out, HG.out, HSr.out.up (by omega)⟩
end Go.Proofs.Ythdmfmhhnacgfaa
