/- Choices: trains. -/
import Derived.Test.YtpkmmelinfcdaaaDrw3
namespace Go.Proofs.Ytpkmmelinfcdaaa
open Go.RowKit Ieee
open Go.Proofs.YtpkmmelinfcdaaaW.PrintWords
set_option maxRecDepth 100000
attribute [local irreducible] wpRel

theorem RW.gr {α : Type} {d : Kd α} {e : Nat} {w W : World} {base g : Nat} {v : Value} {xs : List α} (h : RW d e w base v xs) (hE : d.E = []) (hG : Gr g w W) (hg : g < base) : RW d e W base v xs :=
  h.grown hE hG fun k hk he => by injection he with he; have := h.base_le k hk; omega
theorem gcell {g : Nat} {w W : World} (h : Gr g w W) (b j : Nat) (hb : b < w.heap.size) (hne : b ≠ g) : W.cell? ⟨b, j, none⟩ = w.cell? ⟨b, j, none⟩ :=
  World.cell?_of_block (h.block b hb (fun he => hne (by injection he)))
theorem gfroz {g : Nat} {w W : World} (h : Gr g w W) (b j : Nat) (hb : b < w.heap.size) (hne : b ≠ g) : W.frozen? ⟨b, j, none⟩ = w.frozen? ⟨b, j, none⟩ :=
  World.frozen?_of_block (h.block b hb (fun he => hne (by injection he)))
theorem Src.old {w W : World} {g m : Nat} (h : Src w g m) (hs : w.heap.size ≤ W.heap.size) (hb : ∀ k, k ≤ g → W.heap[k]? = w.heap[k]?) : Src W g m := by
  obtain ⟨A, c, xs, k, sd, c0, c1, c2, f1, f2, hg, hk, hC⟩ := h
  have hc : ∀ a : Addr, a.block ≤ g → W.cell? a = w.cell? a := fun a ha => World.cell?_of_block (hb _ ha)
  have hf : ∀ a : Addr, a.block ≤ g → W.frozen? a = w.frozen? a := fun a ha => World.frozen?_of_block (hb _ ha)
  have hr := hC.row
  refine ⟨A, c, xs, k, sd, (hc _ (Nat.le_refl g)).trans c0, (hc _ (Nat.le_refl g)).trans c1, (hc _ (Nat.le_refl g)).trans c2, (hf _ (Nat.le_refl g)).trans f1, (hf _ (Nat.le_refl g)).trans f2, Nat.lt_of_lt_of_le hg hs, hk, ⟨⟨hr.1, hr.2.1, fun hn => ?_⟩, hC.far, hC.bound, hC.len⟩⟩
  obtain ⟨ad, he, hcc⟩ := hr.2.2 hn
  refine ⟨ad, he, fun j p hj => ?_⟩
  obtain ⟨cs, h1, h2, h3⟩ := hcc j p hj
  exact ⟨cs, h1, h2, fun i u hu => (hc _ (by have := hC.far ad he hn; rw [add_block]; omega)).trans (h3 i u hu)⟩
theorem Src.set {w : World} {g m : Nat} (h : Src w g m) {b o : Nat} (hb : g < b) (u : Value) : Src (w.setCell ⟨b, o, none⟩ u) g m :=
  h.old (by simp) fun k hk => Below.heap_setCell w ⟨b, o, none⟩ u k (fun he => by have he' : k = b := he; omega)
theorem Src.grown {w W : World} {g m : Nat} (h : Src w g m) {row : Option Nat} (hg : w.grownBy W row) (hr : ∀ k, row = some k → g < k) : Src W g m :=
  h.old hg.size fun k hk => hg.block k (Nat.lt_of_le_of_lt hk h.lt) (fun he => by have := hr k he.symm; omega)
def pairD (p : Int × Int × Nat) : Prop := (∃ a, a < 16 ∧ p.1 = wheels.getD a 0) ∧ (∃ b, b < 16 ∧ p.2.1 = wheels.getD b 0) ∧ isPt p.2.2
def drawn (ts : List (Int × Int × Nat)) : Prop := ∀ i, i < ts.length → pairD (ts.getD i zP)
theorem drawn_nil : drawn [] := fun i h => absurd h (Nat.not_lt_zero i)
theorem drawn_snoc {ts : List (Int × Int × Nat)} (h : drawn ts) {p : Int × Int × Nat} (hp : pairD p) : drawn (ts ++ [p]) := by
  intro i hi
  rw [List.getD_eq_getElem?_getD]
  by_cases hlt : i < ts.length
  · rw [List.getElem?_append_left hlt, ← List.getD_eq_getElem?_getD]; exact h i hlt
  · have : i = ts.length := by simp at hi; omega
    subst this
    simpa using hp
theorem pair_i16 {p : Int × Int × Nat} (h : pairD p) : i16B p.1 p.2.1 := by
  obtain ⟨⟨a, ha, e1⟩, ⟨b, hb, e2⟩, _⟩ := h
  have h1 := wheels_bound a ha
  have h2 := wheels_bound b hb
  unfold i16B
  omega
section
variable {ops : Array Oper} {rest : List Oper} {o : Oper} {a : Act} {Q : Exit → Act → World → Prop}
/-- append(v, x) of one pair, whichever base. -/
theorem apPb (base : Nat) {W : World} {r : Nat} {p q : Int} {z : Nat} (hgd : o.guard = none) (s x : Operand) (ho : o.op = .call { callee := .builtin .append, args := #[s, x], argTypes := #[29, 29] })
    (v : Value) (xs : List (Int × Int × Nat)) (hs : a.eval s = v) (hx : a.eval x = .slice (some ⟨W.heap.size, 0, none⟩) 1 1)
    (HO : RW kP 56 W base v xs) (hb : base ≤ W.heap.size) (hl : xs.length ≤ 1048576) (hp : i16B p q) (hr : FV r z)
    (h : ∀ v1 w1, RW kP 56 w1 base v1 (xs ++ [(p, q, z)]) → W.grownBy w1 v.ownBlock → (v1.ownBlock = v.ownBlock ∨ ∃ b, v1.ownBlock = some b ∧ W.heap.size ≤ b) → wpList Try.prog ops Q rest (a.put o.dst v1) w1) :
    wpList Try.prog ops Q (o :: rest) a (W.alloc (.cells #[.int .i16 p, .int .i16 q, .float .f32 r] 56)) :=
  Kd.R_append kP (w0 := W) base hgd s x 29 56 (.agg #[.int .i16 0, .int .i16 0, .float .f32 0]) 8 ho Try.underlying29 info_pair rfl (by decide) (by decide) v xs (p, q, z) [.int .i16 p, .int .i16 q, .float .f32 r] (fun _ => True) (fun _ => False) hs hx (kP_mkM _ _ _ hp hr) (fun _ h => h.elim) (fun _ _ => trivial) HO (Below.refl _ _) hb (by omega) fun v1 w1 h1 _ h2 h3 => h v1 w1 h1 h2 h3
end
def DrawnQ (most g m : Nat) (w : World) (e : Ending) (w' : World) : Prop :=
  ∃ v ts, e = .returned v ∧ RW kP 56 w' w.heap.size v ts ∧ 1 ≤ ts.length ∧ ts.length ≤ most ∧ drawn ts ∧ Gr g w w' ∧ Src w' g (m + 200)
set_option maxHeartbeats 4000000 in
theorem l01Drawn_any (g m most : Nat) (w : World) (h : Src w g m) (hm : m ≤ 800000000) (h1 : 1 ≤ most) (h8 : most ≤ 8) :
    Calls Try.prog 40 #[.pointer (some ⟨g, 0, none⟩), .int .i64 (most : Int)] w (DrawnQ most g m w) := by
  have HS := Lib.hid h
  have hlt := h.lt
  clear h
  go_enter Try.func40, Try.ntmps40
  go_wp2_with fail
  go_at_call 42
  refine (pick_any g m (most : Int) _ (HS.out.below (by (repeat (first | with_reducible exact Below.refl _ _ | with_reducible refine bset ?_ (by first | (simp; done) | (simp; omega) | omega) _ | with_reducible refine balloc ?_ _ | with_reducible refine bdrewN ?_ _ | with_reducible refine bdrew ?_ | with_reducible refine bstep ?_ (by assumption))))) (by omega) (by omega) (by omega)).mono ?_
  rintro e w1 ⟨x, rfl, hx0, hx1, hG1, hS1⟩
  obtain ⟨N, hN⟩ : ∃ N : Nat, x + 1 = N := ⟨(x + 1).toNat, by omega⟩
  obtain rfl : x = (N : Int) - 1 := by omega
  have hN1 : 1 ≤ N := by omega
  have hN2 : N ≤ most := by omega
  have hwr : IntKind.i64.wrap ((N : Int) - 1 + 1) = (N : Int) := by rw [show (N : Int) - 1 + 1 = N by omega]; exact IntWalk.i64_in _ (by omega)
  have HR0 : Hid (RW kP 56 w1 w.heap.size (.slice (some ⟨w.heap.size, 0, none⟩) 0 0) []) := Lib.hid ((RW.empty (w := w.alloc (.cells #[] 56)) kP 56 w.heap.size w.heap.size (heap_alloc_new w _) (Nat.le_refl _)).gr rfl hG1 hlt)
  have HG1 : Hid (Gr g w w1) := Lib.hid (((Gr.refl g w).alloc _).then hG1)
  replace hS1 := Lib.hid hS1
  clear hG1
  go_wp2
  go_loopw [5, 6] (fun v i wr => ∃ (j : Nat) (ts : List (Int × Int × Nat)), j ≤ N ∧ ts.length = j ∧ i = .int .i64 ((N : Int) - j) ∧ Hid (RW kP 56 wr w.heap.size v ts) ∧ Hid (Gr g w wr) ∧ Hid (drawn ts) ∧ Hid (Src wr g (m + 2 + 12 * j))) (fun _ i _ => (intOf i).toNat)
  case atStart => exact ⟨0, [], Nat.zero_le _, rfl, by go_num, HR0, HG1, Lib.hid drawn_nil, hS1⟩
  case round =>
    obtain ⟨j, ts, hj, hts, rfl, HR, HG, HD, HSr⟩ := hrel
    by_cases hlt2 : j < N
    · have hw1 : IntKind.i64.wrap ((N : Int) - j - 1) = (N : Int) - (j + 1 : Nat) := by rw [show (N : Int) - j - 1 = (N : Int) - (j + 1 : Nat) by omega]; exact IntWalk.i64_in _ (by omega)
      have hpos : (0 : Int) < (N : Int) - j := by omega
      go_wp2_with fail
      go_at_call 52
      refine (l01Wheel_any g _ _ HSr.out (by omega)).mono ?_
      rintro e w2 ⟨a1, ha1, rfl, hG2, hS2⟩
      obtain ⟨p, hp⟩ : ∃ p, p = wheels.getD a1 0 := ⟨_, rfl⟩
      rw [← hp]
      replace hS2 := Lib.hid hS2
      replace hG2 := Lib.hid hG2
      replace hp := Lib.hid hp
      go_wp2_with fail
      go_at_call 52
      refine (l01Wheel_any g _ _ hS2.out (by omega)).mono ?_
      rintro e w3 ⟨a2, ha2, rfl, hG3, hS3⟩
      obtain ⟨q, hq⟩ : ∃ q, q = wheels.getD a2 0 := ⟨_, rfl⟩
      rw [← hq]
      have hlt3 := hS3.lt
      have hszz : w.heap.size ≤ w3.heap.size := by have := HG.out.size; have := hG2.out.size; have := hG3.size; omega
      replace hS3 := Lib.hid hS3
      have HR3 := Lib.hid ((HR.out.gr rfl hG2.out hlt).gr rfl hG3 hlt)
      replace hG3 := Lib.hid (((HG.out).then hG2.out).then hG3)
      replace hq := Lib.hid hq
      have hpb := Lib.hid (HR3.out.lt)
      have hgw : g < w3.heap.size := hlt3
      have hp16 : i16B p q := by
        have h1 := wheels_bound a1 ha1
        have h2 := wheels_bound a2 ha2
        rw [← hp.out] at h1
        rw [← hq.out] at h2
        unfold i16B
        omega
      have HL := Lib.hid (show ts.length ≤ 1048576 by omega)
      go_wp2_with fail
      go_at_call 53
      refine (l01Tone_any g _ _ (hS3.out.below (balloc (Below.refl _ _) _)) (by omega)).mono ?_
      rintro e w5 ⟨r, x, rfl, hr, hpt, hG5, hS5⟩
      have hs3 : w3.heap.size < (w3.alloc (.cells #[.int .i16 p, .int .i16 q, .float .f32 0] 56)).heap.size := by simp
      have hne : w3.heap.size ≠ g := by omega
      have d0 := (gcell hG5 w3.heap.size 0 hs3 hne).trans (World.cell?_alloc_at _ _ _ _ rfl)
      have d1 := (gcell hG5 w3.heap.size 1 hs3 hne).trans (World.cell?_alloc_at _ _ _ _ rfl)
      have d2 := (gcell hG5 w3.heap.size 2 hs3 hne).trans (World.cell?_alloc_at _ _ _ _ rfl)
      have f0 : w5.frozen? ⟨w3.heap.size, 2, none⟩ = false := (gfroz hG5 w3.heap.size 2 hs3 hne).trans (by go_simp)
      have hs5 : w3.heap.size < w5.heap.size := Nat.lt_of_lt_of_le hs3 hG5.size
      have HR5 := Lib.hid ((HR3.out.alloc _).gr rfl hG5 hlt)
      have HG5 := Lib.hid (((hG3.out).alloc _).then hG5)
      replace hS5 := Lib.hid hS5
      simp at d0 d1 d2
      clear hG5 HR3 hs3 hS3 hG3 hS2 hG2 HSr HR HG
      generalize hpbe : w3.heap.size = pb at *
      clear hpbe
      go_wp2_with fail
      go_at_call 54
      refine (one_any g _ 2 _ (hS5.out.set hgw _) (by omega) (by decide) (by decide)).mono ?_
      rintro e w6 ⟨bb, rfl, hG6, hS6⟩
      have hs6 : pb < (w5.setCell ⟨pb, 2, none⟩ (.float .f32 r)).heap.size := by simpa using hs5
      have e0 : w6.cell? ⟨pb, 0, none⟩ = some (.int .i16 p) := (gcell hG6 pb 0 hs6 hne).trans (by go_simp)
      have e1 : w6.cell? ⟨pb, 1, none⟩ = some (.int .i16 q) := (gcell hG6 pb 1 hs6 hne).trans (by go_simp)
      have e2 : w6.cell? ⟨pb, 2, none⟩ = some (.float .f32 r) := (gcell hG6 pb 2 hs6 hne).trans (by go_simp)
      have e3 : w6.frozen? ⟨pb, 2, none⟩ = false := (gfroz hG6 pb 2 hs6 hne).trans (by go_simp)
      have hs7 : pb < w6.heap.size := Nat.lt_of_lt_of_le hs6 hG6.size
      have HR6 := Lib.hid ((HR5.out.setOut rfl (fun k hk => by have := hpb.out k hk; omega) _ : RW kP 56 (w5.setCell ⟨pb, 2, none⟩ (.float .f32 r)) w.heap.size u5 ts).gr rfl hG6 hlt)
      have HG6 := Lib.hid (((HG5.out).set (.inr hszz) _ : Gr g w (w5.setCell ⟨pb, 2, none⟩ (.float .f32 r))).then hG6)
      have HS6 := Lib.hid hS6
      clear hG6 hS6 d0 d1 d2 f0 hs5 HR5 HG5 hS5 hs6
      have HFR := Lib.hid hr
      have HPT := Lib.hid hpt
      clear hr hpt
      cases bb
      · skip
        go_wp2_with (at_builtin; go_must ((refine apPb w.heap.size (o := ⟨some 35, _, _, _, _, _⟩) rfl (.tmp 32) (.tmp 34) rfl u5 ts ?y35 ?x35 ?o35 ?b35 HL.out hp16 HFR.out ?_; (case y35 => rfl); (case x35 => go_simp); (case o35 => exact HR6.out); (case b35 => have := HG6.out.size ; simp ; omega); intro v35 w35 ho_ hg_ hat_; have HO35 := Lib.hid ho_; have HG35 := Lib.hid (And.intro hg_ hat_); clear ho_ hg_ hat_)))
        go_roundw
        case rel =>
          refine ⟨j + 1, ts ++ [(p, q, x)], hlt2, by simp [hts], by go_num, HO35, Lib.hid (Gr.grown HG6.out HG35.out.1 (fun k hk => .inr (HR6.out.base_le k hk))), Lib.hid (drawn_snoc HD.out ⟨⟨a1, ha1, hp.out⟩, ⟨a2, ha2, hq.out⟩, HPT.out⟩), Lib.hid ((HS6.out.grown HG35.out.1 (fun k hk => Nat.lt_of_lt_of_le hlt (HR6.out.base_le k hk))).up (by omega))⟩
        case measure => simp [intOf]; omega
      · go_wp2_with fail
        go_at_call 42
        refine (pick_any g _ 5 _ HS6.out (by omega) (by decide) (by decide)).mono ?_
        rintro e w7 ⟨y, rfl, hy0, hy1, hG7, hS7⟩
        have d0 := (gcell hG7 pb 0 hs7 hne).trans e0
        have d1 := (gcell hG7 pb 1 hs7 hne).trans e1
        have d2 := (gcell hG7 pb 2 hs7 hne).trans e2
        have d3 := (gfroz hG7 pb 2 hs7 hne).trans e3
        have hs8 : pb < w7.heap.size := Nat.lt_of_lt_of_le hs7 hG7.size
        have HR7 := Lib.hid (HR6.out.gr rfl hG7 hlt)
        have HG7 := Lib.hid (HG6.out.then hG7)
        have HS7 := Lib.hid hS7
        have HPV : Hid (isPt (fdiv (fi y) (cn 1115684864))) := Lib.hid (pick_part hy0 (show y ≤ 64 by omega) (by decide) (by decide) (by decide))
        clear hG7 hS7 e0 e1 e2 e3 hs7 HR6 HG6 HS6
        go_wp2_with (first | ((refine wpList_fop (o := ⟨some 30, _, _, _, _, _⟩) rfl rfl (by first | exact .inl rfl | exact .inr (.inl rfl) | exact .inr (.inr (.inl rfl)) | exact .inr (.inr (.inr rfl))) rfl rfl ?_; intro r30 n30 h30); rw [cn_fi] at h30; have HV := Lib.hid h30; clear h30) | (at_builtin; go_must ((refine apPb w.heap.size (o := ⟨some 35, _, _, _, _, _⟩) rfl (.tmp 32) (.tmp 34) rfl u5 ts ?y35 ?x35 ?o35 ?b35 HL.out hp16 HV.out ?_; (case y35 => rfl); (case x35 => go_simp); (case o35 => refine RW.setOut ?_ rfl (fun k hk => by have := hpb.out k hk ; omega) _ ; apply RW.drewN ; exact HR7.out); (case b35 => have := HG7.out.size ; simp ; omega); intro v35 w35 ho_ hg_ hat_; have HO35 := Lib.hid ho_; have HG35 := Lib.hid (And.intro hg_ hat_); clear ho_ hg_ hat_))))
        go_roundw
        case rel =>
          refine ⟨j + 1, ts ++ [(p, q, _)], hlt2, by simp [hts], by go_num, HO35, Lib.hid (Gr.grown ((HG7.out.drewN _).set (.inr hszz) _) HG35.out.1 (fun k hk => .inr (HR7.out.base_le k hk))), Lib.hid (drawn_snoc HD.out ⟨⟨a1, ha1, hp.out⟩, ⟨a2, ha2, hq.out⟩, HPV.out⟩), Lib.hid (((((HS7.out.below (bdrewN (Below.refl _ _) _)).set hgw _)).grown HG35.out.1 (fun k hk => Nat.lt_of_lt_of_le hlt (HR7.out.base_le k hk))).up (by omega))⟩
        case measure => simp [intOf]; omega
    · have hjN : j = N := by omega
      subst hjN
      go_wp2
      go_ret
      exact ⟨_, ts, rfl, HR.out, by omega, by omega, HD.out, HG.out, HSr.out.up (by omega)⟩
end Go.Proofs.Ytpkmmelinfcdaaa
