/- FnLines: contracts at what is drawn. -/
import Derived.Test.YthdmfmhhnacgfaaDrwL
import Derived.Test.YthdmfmhhnacgfaaLone4
namespace Go.Proofs.Ythdmfmhhnacgfaa
open Go.RowKit Ieee
open Go.Proofs.YthdmfmhhnacgfaaW.PrintWords
set_option maxRecDepth 100000
attribute [local irreducible] wpRel

/-- A guard that reads a slot which an operation left out: no Bool. -/
@[go_sem high] theorem some_undef : (some undef : Option Value) = some (.tuple #[]) := rfl
theorem a2Long_at (A B : Option Addr) (n c m c' : Nat) (b : Bool) (hb : (decide (3000 < n) || decide (3000 < m)) = b) (hn : n ≤ 9223372036854775807) (hm : m ≤ 9223372036854775807) (w : World) :
    Calls Try.prog 4 #[.slice A n c, .slice B m c'] w fun e w' => e = .returned (.bool b) ∧ w = w' := by
  subst hb
  by_cases h1 : 3000 < n
  · have h1' : (3000 : Int) < n := by omega
    go_enter Try.func4, Try.ntmps4
    go_wp2
    go_ret
    exact ⟨by simp [h1], rfl⟩
  · have h1' : ¬ (3000 : Int) < n := by omega
    by_cases h2 : 3000 < m
    · have h2' : (3000 : Int) < m := by omega
      go_enter Try.func4, Try.ntmps4
      go_wp2
      go_ret
      exact ⟨by simp [h1, h2], rfl⟩
    · have h2' : ¬ (3000 : Int) < m := by omega
      go_enter Try.func4, Try.ntmps4
      go_wp2
      go_ret
      exact ⟨by simp [h1, h2], rfl⟩
theorem a2At_any (A : Option Addr) (c : Nat) (xs : List Int) (w : World) (hA : Bytes w A xs) (k : Nat) (hk : k ≤ 1000) (n : Int) (hn : 1 ≤ n) (hn2 : n ≤ 1000000) :
    Calls Try.prog 6 #[.slice A xs.length c, .int .i64 k, .int .i64 n] w fun e w' => (∃ v : Int, e = .returned (.int .i64 v) ∧ 0 ≤ v ∧ v < n) ∧ w = w' := by
  have hl := hA.len
  have h1 : ¬ n < 1 := by omega
  have h2 : n ≠ 0 := by omega
  by_cases h : k < xs.length
  · obtain ⟨b, off, cs, e, hb, _, hK, hc⟩ := C_at hA.row (show 0 < kB.sz by decide) 0 k h
    have hK' : cs = [.int .u8 (xs.getD k 0)] := hK
    subst hK'
    subst e
    have d0 : w.cell? ⟨b, off + k, none⟩ = some (.int .u8 (xs.getD k 0)) := by
      have := hc 0 _ rfl
      rw [show off + k = off + k * kB.sz + 0 from by show _ = off + k * 1 + 0; omega]
      exact this
    obtain ⟨b0, b1⟩ := hA.bound k h
    generalize xs.getD k 0 = x at d0 b0 b1
    clear hA hc hK
    have e1 : ¬ (xs.length : Int) ≤ k := by omega
    have e2 : (k : Int) < xs.length := by omega
    have e3 : (0 : Int) ≤ k := by omega
    have e5 : IntKind.i64.wrap x = x := IntWalk.i64_in _ (by omega)
    go_enter Try.func6, Try.ntmps6
    go_wp2
    go_ret
    exact ⟨⟨_, rfl, Int.emod_nonneg _ (by omega), Int.emod_lt_of_pos _ (by omega)⟩, rfl⟩
  · have e1 : (xs.length : Int) ≤ k := by omega
    clear hA
    go_enter Try.func6, Try.ntmps6
    go_wp2
    go_ret
    exact ⟨⟨0, rfl, by omega, by omega⟩, rfl⟩
def LineQ (w : World) (e : Ending) (w' : World) : Prop :=
  ∃ v ls, e = .returned v ∧ RW kD 48 w' w.heap.size v ls ∧ 2 ≤ ls.length ∧ ls.length ≤ 5 ∧ drawnL ls ∧ Below w.heap.size w w'
theorem a2Line_any (A : Option Addr) (c : Nat) (xs : List Int) (w : World) (hA : Bytes w A xs) :
    Calls Try.prog 5 #[.slice A xs.length c] w (LineQ w) := by
  have HA := Lib.hid hA
  clear hA
  go_enter Try.func5, Try.ntmps5
  go_wp2_with fail
  go_at_call 17
  refine (l00From_any A c xs w HA.out.row HA.out.bound HA.out.len).mono ?_
  rintro e w1 ⟨rfl, hb1, hS1⟩
  replace hS1 := Lib.hid hS1
  go_wp2_with fail
  go_at_call 16
  refine (l07Discs_any _ 0 _ hS1.out (by decide)).mono ?_
  rintro e w2 ⟨v, ls, rfl, hR, h1, h4, hd, hG, _⟩
  have HR := Lib.hid hR
  have HG := Lib.hid hG
  clear hR hG
  go_wp2
  go_ret
  exact ⟨v, ls, rfl, HR.out.lower hb1.size, h1, h4, hd, Gr.below hb1 HG.out (Nat.le_refl _)⟩
theorem l01Same_FV {r s x : Nat} (hr : FV r x) (hs : FV s x) (w : World) : Calls Try.prog 27 #[.float .f32 r, .float .f32 s] w fun e w' => e = .returned (.bool true) ∧ w = w' := by
  have h := l01Same_any r s w
  have e : same r s = true := by unfold same; exact decide_eq_true (hr.1.trans hs.1.symm)
  rwa [e] at h
theorem sameN_self (a : Nat) (w : World) : Calls Try.prog 15 #[.float .f32 a, .float .f32 a] w fun e w' => e = .returned (.bool true) ∧ w = w' := by
  have HC := Lib.hid (l01Same_any a a)
  rw [show same a a = true by unfold same; simp] at HC
  go_enter Try.func15, Try.ntmps15
  go_wp2_with (go_at_call 27; refine (HC.out _).mono ?_; rintro e w' ⟨rfl, rfl⟩)
  go_ret
  exact ⟨rfl, rfl⟩
theorem a2Same_any (A B : Option Addr) (c c' n : Nat) (xs : List Nat) (w : World) (hA : Kd.C kf w A n xs) (hB : Kd.C kf w B n xs) (hm : n ≤ 1000) :
    Calls Try.prog 11 #[.slice A n c, .slice B n c'] w fun e w' => e = .returned (.bool true) ∧ Below w.heap.size w w' := by
  have HA := Lib.hid hA
  have HB := Lib.hid hB
  clear hA hB
  go_enter Try.func11, Try.ntmps11
  go_wp2
  go_loopw [5] (fun i wr => ∃ k : Nat, k ≤ n ∧ i = .int .i64 k ∧ Below w.heap.size w wr) (fun i _ => n - (intOf i).toNat)
  case atStart => exact ⟨0, Nat.zero_le _, rfl, Below.refl _ _⟩
  case round =>
    obtain ⟨k, hk, rfl, hb⟩ := hrel
    by_cases hlt : k < n
    · obtain ⟨b, off, r, rfl, hbl, c0, hr⟩ := at_kf HA.out k hlt
      obtain ⟨b', off', r', rfl, hbl', c1, hr'⟩ := at_kf HB.out k hlt
      have d0 := (bc hb b (off + k) hbl).trans c0
      have d1 := (bc hb b' (off' + k) hbl').trans c1
      have HR := Lib.hid (And.intro hr hr')
      clear c0 c1 hr hr'
      have x1 : (k : Int) < (n : Int) := by omega
      have x2 : (0 : Int) ≤ (k : Int) := by omega
      obtain ⟨wo, hwo⟩ : ∃ wo : World, wo = wr := ⟨_, rfl⟩
      subst hwo
      go_wp2
      first | refine region_drewN (DIs (.bool true)) (by kernel_rfl) (by kernel_rfl) ?_ | refine region_drew (DIs (.bool true)) (by kernel_rfl) (by kernel_rfl) ?_
      repeat (first | (refine wpRel_plain rfl (fun K hK => ?_); intro w' hw'; obtain ⟨n', rfl⟩ := hw'; go_simp; refine ⟨?_, fun v hv => ?_⟩; (go_at_call 27; refine (l01Same_FV HR.out.1 HR.out.2 _).mono ?_; rintro e w' ⟨rfl, rfl⟩; exact ⟨_, rfl, rfl, Drew.mk _ _⟩); obtain rfl : v = _ := hv; (refine hK _ ?_; clear hK K n')) | (refine wpRel_plain rfl (fun K hK => ?_); intro w' hw'; obtain ⟨n', rfl⟩ := hw'; go_simp; refine ⟨Drew.mk _ _, hK _ ?_⟩; clear hK K n'))
      (refine wpRel_nil ?_; intro w' hw'; obtain ⟨nq, rfl⟩ := hw')
      go_wp2
      go_roundw
      case rel => exact ⟨k + 1, hlt, by go_num, bdrewN hb _⟩
      case measure => simp [intOf]; omega
    · go_wp2
      go_ret
      exact ⟨rfl, hb⟩
/-! ### the answers of a drawn line -/
def AnsK (l : List (Nat × Nat)) (q : Nat) (w : World) (e : Ending) (w' : World) : Prop :=
  ∃ A1 c1 A2 c2, e = .returned (.tuple #[.slice A1 l.length c1, .slice A2 l.length c2, .int .i64 0]) ∧ Kd.C kf w' A1 l.length (swL l q l.length) ∧ Kd.C kf w' A2 l.length (twL l q l.length) ∧ Below w.heap.size w w'
theorem ansK_of {l : List (Nat × Nat)} {q : Nat} {w : World} (hl : lineOk l = true) (hq : amountL q = true) (hc : cn q = q) {e : Ending} {w' : World} (h : AnsA (outL l q) w e w') : AnsK l q w e w' := by
  have e1 : outL l q = (swL l q l.length, twL l q l.length, 0) := by unfold outL; rw [if_pos hl, if_pos hq, hc]
  rw [e1] at h
  obtain ⟨v1, v2, rfl, h1, h2, _, hb⟩ := h
  obtain ⟨A1, c1, hv1, _, hC1⟩ := h1.reads
  obtain ⟨A2, c2, hv2, _, hC2⟩ := h2.reads
  have n1 : (swL l q l.length).length = l.length := swL_length _ _ _
  have n2 : (twL l q l.length).length = l.length := twL_length _ _ _
  have hv1' : v1 = .slice A1 (swL l q l.length).length c1 := hv1
  have hv2' : v2 = .slice A2 (twL l q l.length).length c2 := hv2
  have hC1' : Kd.C kf w' A1 (swL l q l.length).length (swL l q l.length) := hC1
  have hC2' : Kd.C kf w' A2 (twL l q l.length).length (twL l q l.length) := hC2
  rw [n1] at hv1' hC1'
  rw [n2] at hv2' hC2'
  subst hv1' hv2'
  exact ⟨A1, c1, A2, c2, rfl, hC1', hC2', hb⟩
theorem answerI_ok (A : Option Addr) (c : Nat) (l : List (Nat × Nat)) (q : Nat) (w : World) (hl : lineOk l = true) (hq : amountL q = true ∧ cn q = q) (hA : Kd.C kD w A l.length l) :
    Calls Try.prog 7 #[.slice A l.length c, .float .f32 q] w (AnsK l q w) :=
  (answerOf_impl A c l q w hA (by have := lineOk_len hl; omega)).mono fun _ _ h => ansK_of hl hq.1 hq.2 h
theorem answerS_ok (A : Option Addr) (c : Nat) (l : List (Nat × Nat)) (q : Nat) (w : World) (hl : lineOk l = true) (hq : amountL q = true ∧ cn q = q) (hA : Kd.C kD w A l.length l) :
    Calls Try.prog 8 #[.slice A l.length c, .float .f32 q] w (AnsK l q w) :=
  (answerOf_spec A c l q w hA (by have := lineOk_len hl; omega)).mono fun _ _ h => ansK_of hl hq.1 hq.2 h
theorem amount_of {x : Nat} (h : x ≤ 1233125376) : amountL x = true ∧ cn x = x := ⟨amount_nn h, nn_cn (by unfold nn; omega)⟩
theorem square_at {v : Int} {r : Nat} (h0 : 0 ≤ v) (h1 : v < 200) (h : FV r (fop .quo (cn (fi v)) (cn 1090519040))) : amountL r = true ∧ cn r = r := by
  obtain ⟨u, rfl⟩ : ∃ u : Nat, v = u := ⟨v.toNat, by omega⟩
  have := of_decide_eq_true (square_ok u (by omega))
  rw [cn_of_not (fi_isn _), show cn 1090519040 = 1090519040 by decide] at h
  have h' : FV r (fdiv (fi (u : Int)) 1090519040) := h
  have e := FV_nn h' (by unfold nn; omega)
  exact amount_of (by omega)
theorem lohi_at {u v : Int} {p q r : Nat} (h0 : 0 ≤ u) (h1 : u < 60) (h2 : 0 ≤ v) (h3 : v < 250) (hp : FV p (fop .quo (cn (fi (1 + u))) (cn 1098907648))) (hq : FV q (fop .quo (cn (fi (1 + v))) (cn 1082130432))) (hr : FV r (fop .add (cn p) (cn q))) : Between p r := by
  obtain ⟨a, rfl⟩ : ∃ a : Nat, u = a := ⟨u.toNat, by omega⟩
  obtain ⟨b, rfl⟩ : ∃ b : Nat, v = b := ⟨v.toNat, by omega⟩
  have hb := between_ok (u := a) (v := b) (by omega) (by omega)
  have h5 := step_ok b (by omega)
  have h6 := low_ok a (by omega)
  simp only [Bool.and_eq_true, decide_eq_true_eq] at h5 h6
  rw [Int.add_comm, cn_of_not (fi_isn _), show cn 1098907648 = 1098907648 by decide] at hp
  rw [Int.add_comm, cn_of_not (fi_isn _), show cn 1082130432 = 1082130432 by decide] at hq
  have hp' : FV p (fdiv (fi ((a : Int) + 1)) 1098907648) := hp
  have hq' : FV q (fdiv (fi ((b : Int) + 1)) 1082130432) := hq
  have ep := FV_nn hp' (by unfold nn; omega)
  have eq := FV_nn hq' (by unfold nn; omega)
  rw [← ep, ← eq] at hb
  have hr' : FV r (fadd p q) := by
    have h : FV r (fadd (cn p) (cn q)) := hr
    rwa [nn_cn (by unfold nn; omega), nn_cn (by unfold nn; omega)] at h
  have er := FV_nn hr' (by have := hb.h1; unfold nn; omega)
  rw [er]
  exact hb
/-! ### signs -/
theorem apart_eq (x x' : Nat) : apart x x' = (flt x 0 && flt 0 x' || flt 0 x && flt x' 0) := by
  have a1 := flt_asymm x
  have a2 := flt_asymm x'
  unfold apart sgnV
  revert a1 a2
  cases flt x 0 <;> cases flt 0 x <;> cases flt x' 0 <;> cases flt 0 x' <;> simp
theorem signs_no {rx ry x y : Nat} (hx : FV rx x) (hy : FV ry y) (h : apart x y = false) :
    (flt rx 0 = true ∧ flt 0 ry = false ∧ flt 0 rx = false) ∨ (flt rx 0 = false ∧ flt 0 rx = true ∧ flt ry 0 = false) ∨ (flt rx 0 = false ∧ flt 0 rx = false) := by
  rw [flt_vl (c := 0) hx (by decide), flt_vr (c := 0) hx (by decide), flt_vl (c := 0) hy (by decide), flt_vr (c := 0) hy (by decide)]
  rw [apart_eq] at h
  have a1 := flt_asymm x
  revert a1 h
  cases flt x 0 <;> cases flt 0 x <;> cases flt y 0 <;> cases flt 0 y <;> simp
theorem signs_yes {rx ry x y : Nat} (hx : FV rx x) (hy : FV ry y) (h : apart x y = true) :
    (flt rx 0 = true ∧ flt 0 ry = true) ∨ (flt rx 0 = false ∧ flt 0 rx = true ∧ flt ry 0 = true) := by
  rw [flt_vl (c := 0) hx (by decide), flt_vr (c := 0) hx (by decide), flt_vl (c := 0) hy (by decide), flt_vr (c := 0) hy (by decide)]
  rw [apart_eq] at h
  have a1 := flt_asymm x
  revert a1 h
  cases flt x 0 <;> cases flt 0 x <;> cases flt y 0 <;> cases flt 0 y <;> simp
theorem sign_there {rx rt x t : Nat} (hx : FV rx x) (ht : FV rt t) (hs : sgnV t = sgnV x) (hn : sgnV x ≠ 0) : flt rt 0 = flt rx 0 ∧ feq rt 0 = false := by
  have q0 : feq rt 0 = feq t 0 := by rw [← feq_cn rt 0, ht.1, show cn 0 = 0 by decide]
  rw [flt_vl (c := 0) hx (by decide), flt_vl (c := 0) ht (by decide), q0]
  have a1 := flt_asymm x
  have a2 := flt_asymm t
  have a3 : flt t 0 = true → feq t 0 = false := by
    unfold flt feq
    cases single.order t 0 with
    | none => simp
    | some o => cases o <;> simp
  have a4 : flt 0 t = true → feq t 0 = false := by
    unfold flt feq
    rw [single_swap t 0]
    cases single.order t 0 with
    | none => simp
    | some o => cases o <;> simp
  unfold sgnV at hs hn
  revert a1 a2 a3 a4 hn hs
  cases flt x 0 <;> cases flt 0 x <;> cases flt t 0 <;> cases flt 0 t <;> simp
end Go.Proofs.Ythdmfmhhnacgfaa
