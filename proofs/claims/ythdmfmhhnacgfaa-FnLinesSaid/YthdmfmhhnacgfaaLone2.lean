/- The speed at which a line swings by itself: the reference's walk. -/
import Derived.Test.YthdmfmhhnacgfaaLone
namespace Go.Proofs.Ythdmfmhhnacgfaa
open Go.RowKit Ieee
open Go.Proofs.YthdmfmhhnacgfaaW.PrintWords
set_option maxRecDepth 100000
attribute [local irreducible] wpRel

def fineL (p q : Nat) : Bool := amountL p && amountL q && flt p q
def bisL (l : List (Nat × Nat)) (p q : Nat) : Nat := bis (fun m => decide (sgnV (lastV l m) = sgnV (lastV l (cn p)))) 40 (cn p) (cn q)
def loneO (l : List (Nat × Nat)) (p q : Nat) : Nat × Int :=
  if lineOk l = true then (if fineL p q = true then (if apart (lastV l (cn p)) (lastV l (cn q)) = true then (bisL l p q, 0) else (0, 6)) else (0, 2)) else (0, 1)
def LoQ (a : Nat × Int) (w : World) (e : Ending) (w' : World) : Prop := ∃ r, e = .returned (.tuple #[.float .f32 r, .int .i64 a.2]) ∧ FV r a.1 ∧ Below w.heap.size w w'
theorem fin_isn {a b x : Nat} (h : fin a b x = true) : isn x = false := by
  cases hx : isn x
  · rfl
  · unfold fin fle at h
    rw [order_nr a hx] at h
    simp at h
theorem dorder_some {x y : Datum} (h : x.isNaN = false) (h' : y.isNaN = false) : (x.order y).isSome = true := by
  cases x <;> cases y <;> simp_all [Datum.isNaN, Datum.order]
theorem order_some {x y : Nat} (h : isn x = false) (h' : isn y = false) : (single.order x y).isSome = true := dorder_some h h'
/-- Two amounts are ordered. -/
theorem amount_ge {p q : Nat} (hp : amountL p = true) (hq : amountL q = true) : fle q p = !flt p q := by
  have h1 := fin_isn hp
  have h2 := fin_isn hq
  unfold fle flt
  rw [single_swap p q]
  have h3 : (single.order p q).isSome = true := order_some h1 h2
  revert h3
  cases single.order p q with
  | none => simp
  | some o => cases o <;> simp
set_option maxHeartbeats 8000000 in
theorem lone_spec (A : Option Addr) (c : Nat) (l : List (Nat × Nat)) (p q : Nat) (w : World) (hA : Kd.C kD w A l.length l) (hm : l.length ≤ 1048576) (hp : p < 4294967296) (hq : q < 4294967296) :
    Calls Try.prog 14 #[.slice A l.length c, .float .f32 p, .float .f32 q] w (LoQ (loneO l p q) w) := by
  have HL := Lib.hid (fun c => l07Line_any A c l w hA hm)
  have HF := Lib.hid l07Fast_any
  cases hl : lineOk l
  · have e1 : loneO l p q = (0, 1) := by simp [loneO, hl]
    rw [hl] at HL
    rw [e1]; clear e1 hl hA
    go_enter Try.func14, Try.ntmps14
    go_wp2_with (go_at_call 33; refine (HL.out _).mono ?_; rintro e w1 ⟨rfl, hb1⟩)
    go_ret2
    exact ⟨0, rfl, FV_zero, hb1⟩
  · rw [hl] at HL
    have h0 : 0 < l.length := by have := lineOk_len hl; omega
    cases hf : fineL p q
    · have e1 : loneO l p q = (0, 2) := by simp [loneO, hl, hf]
      rw [e1]; clear e1 hl hA h0
      cases h1 : amountL p
      · have HF1 : Hid (∀ w, Calls Try.prog 34 #[.float .f32 p] w fun e w' => e = .returned (.bool false) ∧ w = w') := Lib.hid fun w => by have := HF.out p w; rwa [h1] at this
        clear hf h1
        go_enter Try.func14, Try.ntmps14
        go_wp2_with (first | (go_at_call 34; refine (HF1.out _).mono ?_; rintro e w' ⟨rfl, rfl⟩) | (go_at_call 33; refine (HL.out _).mono ?_; rintro e w1 ⟨rfl, hb1⟩))
        go_ret2
        exact ⟨0, rfl, FV_zero, hb1⟩
      · have HF1 : Hid (∀ w, Calls Try.prog 34 #[.float .f32 p] w fun e w' => e = .returned (.bool true) ∧ w = w') := Lib.hid fun w => by have := HF.out p w; rwa [h1] at this
        cases h2 : amountL q
        · have HF2 : Hid (∀ w, Calls Try.prog 34 #[.float .f32 q] w fun e w' => e = .returned (.bool false) ∧ w = w') := Lib.hid fun w => by have := HF.out q w; rwa [h2] at this
          clear hf h1 h2
          go_enter Try.func14, Try.ntmps14
          go_wp2_with (go_at_call 33; refine (HL.out _).mono ?_; rintro e w1 ⟨rfl, hb1⟩)
          go_at_call 34
          refine (HF1.out _).mono ?_
          rintro e w' ⟨rfl, rfl⟩
          go_wp2_with fail
          go_at_call 34
          refine (HF2.out _).mono ?_
          rintro e w' ⟨rfl, rfl⟩
          go_wp2
          go_ret2
          exact ⟨0, rfl, FV_zero, hb1⟩
        · have HF2 : Hid (∀ w, Calls Try.prog 34 #[.float .f32 q] w fun e w' => e = .returned (.bool true) ∧ w = w') := Lib.hid fun w => by have := HF.out q w; rwa [h2] at this
          have hge : fle q p = true := by rw [amount_ge h1 h2]; simpa [fineL, h1, h2] using hf
          clear hf h1 h2
          go_enter Try.func14, Try.ntmps14
          go_wp2_with (go_at_call 33; refine (HL.out _).mono ?_; rintro e w1 ⟨rfl, hb1⟩)
          go_at_call 34
          refine (HF1.out _).mono ?_
          rintro e w' ⟨rfl, rfl⟩
          go_wp2_with fail
          go_at_call 34
          refine (HF2.out _).mono ?_
          rintro e w' ⟨rfl, rfl⟩
          go_wp2
          go_ret2
          exact ⟨0, rfl, FV_zero, hb1⟩
    · have hh : (amountL p = true ∧ amountL q = true) ∧ flt p q = true := by simpa [fineL] using hf
      obtain ⟨⟨h1, h2⟩, h3⟩ := hh
      have HF1 : Hid (∀ w, Calls Try.prog 34 #[.float .f32 p] w fun e w' => e = .returned (.bool true) ∧ w = w') := Lib.hid fun w => by have := HF.out p w; rwa [h1] at this
      have HF2 : Hid (∀ w, Calls Try.prog 34 #[.float .f32 q] w fun e w' => e = .returned (.bool true) ∧ w = w') := Lib.hid fun w => by have := HF.out q w; rwa [h2] at this
      have hge : fle q p = false := by rw [amount_ge h1 h2, h3]; rfl
      have HLa : Hid (∀ w1 x, Below w.heap.size w w1 → Calls Try.prog 35 #[.slice A l.length c, .float .f32 x] w1 (FltQ (lastV l (cn x)) w1)) := Lib.hid fun w1 x hb => l07Last_any A c l x w1 (Kd.C_below hA hb) h0 hm
      have e0 : loneO l p q = if apart (lastV l (cn p)) (lastV l (cn q)) = true then (bisL l p q, 0) else (0, 6) := by unfold loneO; rw [if_pos hl, if_pos hf]
      obtain ⟨out, hout⟩ : ∃ out, out = loneO l p q := ⟨_, rfl⟩
      rw [← hout]
      have HO := Lib.hid (hout.trans e0)
      clear e0 hout hl hf h1 h2 h3 hA
      go_enter Try.func14, Try.ntmps14
      go_wp2_with (go_at_call 33; refine (HL.out _).mono ?_; rintro e w1 ⟨rfl, hb1⟩)
      go_at_call 34
      refine (HF1.out _).mono ?_
      rintro e w' ⟨rfl, rfl⟩
      go_wp2_with fail
      go_at_call 34
      refine (HF2.out _).mono ?_
      rintro e w' ⟨rfl, rfl⟩
      go_wp2_with fail
      go_at_call 35
      refine (HLa.out _ p hb1).mono ?_
      rintro e w2 ⟨r1, rfl, hr1, hb2⟩
      have b2 := bstep hb1 hb2
      have HR1 := Lib.hid hr1
      clear hr1
      go_wp2_with fail
      go_at_call 35
      refine (HLa.out _ q b2).mono ?_
      rintro e w3 ⟨r2, rfl, hr2, hb3⟩
      have b3 := bstep b2 hb3
      have HAp := Lib.hid (fun w => l07Apart_any r1 _ r2 _ HR1.out hr2 w)
      clear hr2
      cases hap : apart (lastV l (cn p)) (lastV l (cn q))
      · rw [hap] at HAp
        go_wp2_with (go_at_call 26; refine (HAp.out _).mono ?_; rintro e w' ⟨rfl, rfl⟩)
        go_ret2
        rw [show out = (0, 6) from by rw [HO.out, hap]; rfl]
        exact ⟨0, rfl, FV_zero, b3⟩
      · rw [hap] at HAp
        have HOut := Lib.hid (show out = (bisL l p q, 0) by rw [HO.out, hap]; rfl)
        obtain ⟨s, hs⟩ : ∃ s, s = sgnV (lastV l (cn p)) := ⟨_, rfl⟩
        have hs0 : s ≠ 0 := by
          rintro rfl
          unfold apart at hap
          rw [← hs] at hap
          simp at hap
        obtain ⟨G, hG⟩ : ∃ G : Nat → Bool, G = fun m => decide (sgnV (lastV l m) = s) := ⟨_, rfl⟩
        have HG : Hid (∀ m, G m = decide (sgnV (lastV l m) = s)) := Lib.hid fun m => by rw [hG]
        obtain ⟨z, hz⟩ : ∃ z, z = bis G 40 (cn p) (cn q) := ⟨_, rfl⟩
        have HZ := Lib.hid (show bis G (40 - 0) (cn p) (cn q) = z from hz.symm)
        have HE : Hid (bisL l p q = z) := Lib.hid (by rw [hz, hG, hs]; rfl)
        have HS0 := Lib.hid hs.symm
        clear hz hG hs hap HO
        go_wp2_with (go_at_call 26; refine (HAp.out _).mono ?_; rintro e w' ⟨rfl, rfl⟩)
        go_loopw [1, 2, 8] (fun a b i wr => ∃ k x y r t : Nat, k ≤ 40 ∧ i = .int .i64 k ∧ a = .float .f32 r ∧ b = .float .f32 t ∧ Hid (FV r x) ∧ Hid (FV t y) ∧ Hid (sgnV (lastV l x) = s) ∧ Hid (bis G (40 - k) x y = z) ∧ Below w.heap.size w wr) (fun _ _ i _ => 40 - (intOf i).toNat)
        case atStart => exact ⟨0, cn p, cn q, p, q, by omega, rfl, rfl, rfl, Lib.hid ⟨rfl, hp⟩, Lib.hid ⟨rfl, hq⟩, HS0, HZ, b3⟩
        case round =>
          obtain ⟨k, x, y, r, t, hk, rfl, rfl, rfl, HX, HY, HSx, HB, hb⟩ := hrel
          clear HZ HS0
          by_cases hlt : k < 40
          · go_wp2_with (first | (refine wpList_fop (o := ⟨some 42, _, _, _, _, _⟩) rfl rfl (by first | exact .inl rfl | exact .inr (.inl rfl) | exact .inr (.inr (.inl rfl)) | exact .inr (.inr (.inr rfl))) rfl rfl ?_; intro r42 n42 h42) | (refine wpList_fop (o := ⟨some 43, _, _, _, _, _⟩) rfl rfl (by first | exact .inl rfl | exact .inr (.inl rfl) | exact .inr (.inr (.inl rfl)) | exact .inr (.inr (.inr rfl))) rfl rfl ?_; intro r43 n43 h43))
            have hmid : FV r43 (half x y) := by rw [h42.1, HX.out.1, HY.out.1] at h43; exact h43
            have HM := Lib.hid hmid
            have HC1 : Hid (∀ n, Calls Try.prog 35 #[.slice A l.length c, .float .f32 r] (wr.drewN n) (FltQ (lastV l x) (wr.drewN n))) := Lib.hid (fun n => by have := HLa.out _ r (bdrewN hb n); rwa [HX.out.1] at this)
            go_at_call 35
            refine (HC1.out _).mono ?_
            rintro e w5 ⟨ra, rfl, hra, hb5⟩
            have b5 := bstep (bdrewN hb _) hb5
            have HC2 := Lib.hid (HLa.out _ r43 b5)
            rw [hmid.1] at HC2
            clear hmid h42 h43
            go_wp2_with fail
            go_at_call 35
            refine (HC2.out).mono ?_
            rintro e w6 ⟨rb, rfl, hrb, hb6⟩
            have b6 := bstep b5 hb6
            have q1 := flt_vl (c := 0) hra (by decide)
            have q2 := flt_vr (c := 0) hra (by decide)
            have q3 := flt_vl (c := 0) hrb (by decide)
            have q4 := flt_vr (c := 0) hrb (by decide)
            have hsx := HSx.out
            have hg := HG.out (half x y)
            unfold sgnV at hsx hg
            clear hra hrb HC1 HC2
            cases a1 : flt (lastV l x) 0 <;> cases a2 : flt 0 (lastV l x) <;> cases a3 : flt (lastV l (half x y)) 0 <;> cases a4 : flt 0 (lastV l (half x y))
            all_goals (try (exact absurd ((flt_asymm _ a1).symm.trans a2) Bool.false_ne_true))
            all_goals (try (exact absurd ((flt_asymm _ a3).symm.trans a4) Bool.false_ne_true))
            all_goals
              rw [a1] at q1 hsx
              rw [a2] at q2 hsx
              rw [a3] at q3 hg
              rw [a4] at q4 hg
              simp at hsx
              try (exact absurd hsx.symm hs0)
            all_goals
              subst hsx
              simp at hg
              have HGv := Lib.hid hg
              clear hg a1 a2 a3 a4
              first
                | (have HN := Lib.hid ((bis_hit hlt HGv.out).symm.trans HB.out)
                   go_wp2
                   go_roundw
                   (case rel => exact ⟨k + 1, half x y, y, r43, t, by omega, by go_num, rfl, rfl, HM, HY, Lib.hid (by have := HG.out (half x y); rw [HGv.out] at this; exact of_decide_eq_true this.symm), HN, b6⟩)
                   (case measure => simp [intOf]; omega))
                | (have HN := Lib.hid ((bis_miss hlt HGv.out).symm.trans HB.out)
                   go_wp2
                   go_roundw
                   (case rel => exact ⟨k + 1, x, half x y, r, r43, by omega, by go_num, rfl, rfl, HX, HM, HSx, HN, b6⟩)
                   (case measure => simp [intOf]; omega))
          · obtain rfl : k = 40 := by omega
            have HN := Lib.hid (show x = z by have := HB.out; rwa [Nat.sub_self] at this)
            go_wp2
            go_ret2
            rw [HOut.out]
            exact ⟨r, rfl, by show FV r (bisL l p q); rw [HE.out, ← HN.out]; exact HX.out, hb⟩
end Go.Proofs.Ythdmfmhhnacgfaa
