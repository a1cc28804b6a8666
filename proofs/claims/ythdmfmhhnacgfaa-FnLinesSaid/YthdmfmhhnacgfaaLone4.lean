/- The speed at which a line swings by itself: the program's walk, the road on which all is as told. -/
import Derived.Test.YthdmfmhhnacgfaaLone3
namespace Go.Proofs.Ythdmfmhhnacgfaa
open Go.RowKit Ieee
open Go.Proofs.YthdmfmhhnacgfaaW.PrintWords
set_option maxRecDepth 100000
attribute [local irreducible] wpRel

set_option maxHeartbeats 8000000 in
theorem lone_good (A : Option Addr) (c : Nat) (l : List (Nat × Nat)) (p q : Nat) (w : World) (hA : Kd.C kD w A l.length l) (hm : l.length ≤ 1048576) (hp : p < 4294967296) (hq : q < 4294967296)
    (hl : lineOk l = true) (hf : fineL p q = true) :
    Calls Try.prog 13 #[.slice A l.length c, .float .f32 p, .float .f32 q] w (LoQ (loneO l p q) w) := by
  have h0 : 0 < l.length := by have := lineOk_len hl; omega
  have hh : (amountL p = true ∧ amountL q = true) ∧ flt p q = true := by simpa [fineL] using hf
  obtain ⟨⟨h1, h2⟩, h3⟩ := hh
  have HF1 : Hid (∀ w, Calls Try.prog 19 #[.float .f32 p] w fun e w' => e = .returned (.bool true) ∧ w = w') := Lib.hid fun w => by have := isAmountL_any p w; rwa [h1] at this
  have HF2 : Hid (∀ w, Calls Try.prog 19 #[.float .f32 q] w fun e w' => e = .returned (.bool true) ∧ w = w') := Lib.hid fun w => by have := isAmountL_any q w; rwa [h2] at this
  have HC : Hid (∀ w1, Below w.heap.size w w1 → Calls Try.prog 18 #[.slice A l.length c, .bool true] w1 fun e w' => e = .returned (.int .i64 0) ∧ Below w1.heap.size w1 w') := Lib.hid fun w1 hb => lineCode_any A c l true 0 (by simp [codeL, hl]) w1 (Kd.C_below hA hb) hm
  obtain ⟨S, hS⟩ : ∃ S : Nat → Int, S = fun x => sgnV (lastV l (cn x)) := ⟨_, rfl⟩
  have HS : Hid (∀ w1 x, Below w.heap.size w w1 → Calls Try.prog 30 #[.slice A l.length c, .float .f32 x] w1 fun e w' => e = .returned (.int .i64 (S x)) ∧ Below w1.heap.size w1 w') := Lib.hid fun w1 x hb => by
    rw [hS]
    exact lastSign_any A c l x w1 (Kd.C_below hA hb) h0 hm
  have hsb : ∀ x, -1 ≤ S x ∧ S x ≤ 1 := fun x => by rw [hS]; show -1 ≤ sgnV _ ∧ sgnV _ ≤ 1; unfold sgnV; split <;> (try split) <;> omega
  have hpr : -1 ≤ S p * S q ∧ S p * S q ≤ 1 := by
    have e1 : S p = -1 ∨ S p = 0 ∨ S p = 1 := by have := hsb p; omega
    have := hsb q
    rcases e1 with e1 | e1 | e1 <;> rw [e1] <;> omega
  obtain ⟨hp1, hp2⟩ := hpr
  have B0 := hsb p
  have hw : IntKind.i64.wrap (S p * S q) = S p * S q := IntWalk.i64_in _ (by omega)
  have e0 : loneO l p q = if apart (lastV l (cn p)) (lastV l (cn q)) = true then (bisL l p q, 0) else (0, 6) := by unfold loneO; rw [if_pos hl, if_pos hf]
  have hap : apart (lastV l (cn p)) (lastV l (cn q)) = decide (S p * S q < 0) := by rw [hS]; rfl
  have hbs : bisL l p q = bis (fun m => decide (sgnV (lastV l m) = S p)) 40 (cn p) (cn q) := by rw [hS]; rfl
  obtain ⟨out, hout⟩ : ∃ out, out = loneO l p q := ⟨_, rfl⟩
  rw [← hout]
  have HO := Lib.hid (hout.trans e0)
  have HAp := Lib.hid hap
  have HBs := Lib.hid hbs
  have HA := Lib.hid hA
  have b0 : Below w.heap.size w (w.alloc (.cells #[.slice A l.length c] 24)) := balloc (Below.refl _ _) _
  clear hout e0 hap hbs hl hf h1 h2 hA hS hsb
  by_cases hneg : S p * S q < 0
  · have HOut := Lib.hid (show out = (bisL l p q, 0) by rw [HO.out, HAp.out, decide_eq_true hneg]; rfl)
    clear HO HAp
    go_enter Try.func13, Try.ntmps13
    go_wp2
    refine region_below (DAt [(12, .bool true), (15, .bool true), (22, .int .i64 0)]) (by kernel_rfl) (by kernel_rfl) ?_
    repeat (first | (refine wpRel_plain rfl (fun K hK => ?_); intro w' hb'; have hc' := bc (Bel.out hb'); go_simp; refine ⟨?_, fun v hv => ?_⟩; (go_at_call 19; refine (HF1.out _).mono ?_; rintro e w'' ⟨rfl, rfl⟩; exact ⟨_, rfl, rfl, hb'⟩); (first | (obtain rfl : v = _ := hv) | (obtain rfl : v = _ := (Option.some.inj hv).symm)); (refine hK _ ?_; clear hK K hb' hc')) | (refine wpRel_step (fun K hK => ?_); go_simp; intro w' hb'; have hc' := bc (Bel.out hb'); go_simp; refine ⟨?_, fun v hv => ?_⟩; (go_at_call 19; refine (HF2.out _).mono ?_; rintro e w'' ⟨rfl, rfl⟩; exact ⟨_, rfl, rfl, hb'⟩); (first | (obtain rfl : v = _ := hv) | (obtain rfl : v = _ := (Option.some.inj hv).symm)); (refine hK _ ?_; clear hK K hb' hc')) | (refine wpRel_plain rfl (fun K hK => ?_); intro w' hb'; have hc' := bc (Bel.out hb'); go_simp; refine ⟨?_, fun v hv => ?_⟩; (go_at_call 18; refine (HC.out _ (bstep b0 (Bel.out hb'))).mono ?_; rintro e w'' ⟨rfl, hk⟩; exact ⟨_, rfl, rfl, Bel.step hb' hk⟩); (first | (obtain rfl : v = _ := hv) | (obtain rfl : v = _ := (Option.some.inj hv).symm)); (refine hK _ ?_; clear hK K hb' hc')) | (refine wpRel_plain rfl (fun K hK => ?_); intro w' hb'; have hc' := bc (Bel.out hb'); go_simp; (first | refine hK _ ?_ | refine ⟨(by first | exact hb' | exact Bel.drewN hb' _ | exact Bel.alloc hb' _), hK _ ?_⟩); clear hK K hb' hc') | (refine wpRel_step (fun K hK => ?_); go_simp; first | (refine hK _ ?_; clear hK K) | (intro w' hb'; have hc' := bc (Bel.out hb'); go_simp; (first | refine hK _ ?_ | refine ⟨(by first | exact hb' | exact Bel.drewN hb' _ | exact Bel.alloc hb' _), hK _ ?_⟩); clear hK K hb' hc')))
    (refine wpRel_nil ?_; intro w1 hb1; replace hb1 := Bel.out hb1; have hc1 := bc hb1; have hf1 := bf hb1; have hs1 := hb1.size; (try simp at hs1); (try have hz10 : w.heap.size < w1.heap.size := by omega); (try have hz11 : w.heap.size + 1 < w1.heap.size := by omega); (try have hz12 : w.heap.size + 1 + 1 < w1.heap.size := by omega); (try have hz13 : w.heap.size + 1 + 1 + 1 < w1.heap.size := by omega))
    have b1 := bstep b0 hb1
    have g1 : w1.cell? ⟨w.heap.size, 0, none⟩ = some (.slice A l.length c) := (bc hb1 w.heap.size 0 (by simp)).trans (by go_simp)
    clear HC HF1 HF2
    go_wp2
    have l1 := World.block_lt_of_cell? w1 _ g1
    refine region_below (DAt [(28, .int .i64 (S p)), (31, .int .i64 (S q))]) (by kernel_rfl) (by kernel_rfl) ?_
    repeat (first | (refine wpRel_plain rfl (fun K hK => ?_); intro w' hb'; have hc' := bc (Bel.out hb'); go_simp; refine ⟨?_, fun v hv => ?_⟩; (go_at_call 30; refine (HS.out _ _ (bstep b1 (Bel.out hb'))).mono ?_; rintro e w'' ⟨rfl, hk⟩; exact ⟨_, rfl, rfl, Bel.step hb' hk⟩); (first | (obtain rfl : v = _ := hv) | (obtain rfl : v = _ := (Option.some.inj hv).symm)); (refine hK _ ?_; clear hK K hb' hc')) | (refine wpRel_plain rfl (fun K hK => ?_); intro w' hb'; have hc' := bc (Bel.out hb'); go_simp; (first | refine hK _ ?_ | refine ⟨(by first | exact hb' | exact Bel.drewN hb' _ | exact Bel.alloc hb' _), hK _ ?_⟩); clear hK K hb' hc'))
    (refine wpRel_nil ?_; intro w2 hb2; replace hb2 := Bel.out hb2; have hc2 := bc hb2; have hf2 := bf hb2; have hs2 := hb2.size; (try simp at hs2); (try have hz20 : w.heap.size < w2.heap.size := by omega); (try have hz21 : w.heap.size + 1 < w2.heap.size := by omega); (try have hz22 : w.heap.size + 1 + 1 < w2.heap.size := by omega); (try have hz23 : w.heap.size + 1 + 1 + 1 < w2.heap.size := by omega))
    have b2 := bstep b1 hb2
    have g2 : w2.cell? ⟨w.heap.size, 0, none⟩ = some (.slice A l.length c) := (bc hb2 w.heap.size 0 l1).trans g1
    have l2 := World.block_lt_of_cell? w2 _ g2
    go_wp2_with (go_at_call 30; refine (HS.out _ _ b2).mono ?_; rintro e w3 ⟨rfl, hb3⟩; have b3 := bstep b2 hb3; have g3 : w3.cell? ⟨w.heap.size, 0, none⟩ = some (.slice A l.length c) := (bc hb3 w.heap.size 0 l2).trans g2; have l3 := World.block_lt_of_cell? w3 _ g3)
    go_at_call 31
    refine (search_any A c l p q w.heap.size w3.heap.size (S p) _ (Kd.C_below HA.out ?bb) h0 hm hp hq ?gg ?ll).mono ?_
    case bb => (repeat (first | with_reducible exact Below.refl _ _ | with_reducible refine bset ?_ (by first | (simp; done) | (simp; omega) | omega) _ | with_reducible refine balloc ?_ _ | with_reducible refine bdrewN ?_ _ | with_reducible refine bdrew ?_ | with_reducible refine bstep ?_ (by assumption)))
    case gg => go_simp
    case ll => go_simp
    rintro e w4 ⟨r, rfl, hr, hb4⟩
    have HR := Lib.hid hr
    clear hr
    go_wp2
    go_ret2
    rw [HOut.out]
    exact ⟨r, rfl, by show FV r (bisL l p q); rw [HBs.out]; exact HR.out, by (repeat (first | with_reducible exact Below.refl _ _ | with_reducible refine bset ?_ (by first | (simp; done) | (simp; omega) | omega) _ | with_reducible refine balloc ?_ _ | with_reducible refine bdrewN ?_ _ | with_reducible refine bdrew ?_ | with_reducible refine bstep ?_ (by assumption)))⟩
  · have HOut := Lib.hid (show out = (0, 6) by rw [HO.out, HAp.out, decide_eq_false hneg]; rfl)
    clear HO HAp HBs
    go_enter Try.func13, Try.ntmps13
    go_wp2
    refine region_below (DAt [(12, .bool true), (15, .bool true), (22, .int .i64 0)]) (by kernel_rfl) (by kernel_rfl) ?_
    repeat (first | (refine wpRel_plain rfl (fun K hK => ?_); intro w' hb'; have hc' := bc (Bel.out hb'); go_simp; refine ⟨?_, fun v hv => ?_⟩; (go_at_call 19; refine (HF1.out _).mono ?_; rintro e w'' ⟨rfl, rfl⟩; exact ⟨_, rfl, rfl, hb'⟩); (first | (obtain rfl : v = _ := hv) | (obtain rfl : v = _ := (Option.some.inj hv).symm)); (refine hK _ ?_; clear hK K hb' hc')) | (refine wpRel_step (fun K hK => ?_); go_simp; intro w' hb'; have hc' := bc (Bel.out hb'); go_simp; refine ⟨?_, fun v hv => ?_⟩; (go_at_call 19; refine (HF2.out _).mono ?_; rintro e w'' ⟨rfl, rfl⟩; exact ⟨_, rfl, rfl, hb'⟩); (first | (obtain rfl : v = _ := hv) | (obtain rfl : v = _ := (Option.some.inj hv).symm)); (refine hK _ ?_; clear hK K hb' hc')) | (refine wpRel_plain rfl (fun K hK => ?_); intro w' hb'; have hc' := bc (Bel.out hb'); go_simp; refine ⟨?_, fun v hv => ?_⟩; (go_at_call 18; refine (HC.out _ (bstep b0 (Bel.out hb'))).mono ?_; rintro e w'' ⟨rfl, hk⟩; exact ⟨_, rfl, rfl, Bel.step hb' hk⟩); (first | (obtain rfl : v = _ := hv) | (obtain rfl : v = _ := (Option.some.inj hv).symm)); (refine hK _ ?_; clear hK K hb' hc')) | (refine wpRel_plain rfl (fun K hK => ?_); intro w' hb'; have hc' := bc (Bel.out hb'); go_simp; (first | refine hK _ ?_ | refine ⟨(by first | exact hb' | exact Bel.drewN hb' _ | exact Bel.alloc hb' _), hK _ ?_⟩); clear hK K hb' hc') | (refine wpRel_step (fun K hK => ?_); go_simp; first | (refine hK _ ?_; clear hK K) | (intro w' hb'; have hc' := bc (Bel.out hb'); go_simp; (first | refine hK _ ?_ | refine ⟨(by first | exact hb' | exact Bel.drewN hb' _ | exact Bel.alloc hb' _), hK _ ?_⟩); clear hK K hb' hc')))
    (refine wpRel_nil ?_; intro w1 hb1; replace hb1 := Bel.out hb1; have hc1 := bc hb1; have hf1 := bf hb1; have hs1 := hb1.size; (try simp at hs1); (try have hz10 : w.heap.size < w1.heap.size := by omega); (try have hz11 : w.heap.size + 1 < w1.heap.size := by omega); (try have hz12 : w.heap.size + 1 + 1 < w1.heap.size := by omega); (try have hz13 : w.heap.size + 1 + 1 + 1 < w1.heap.size := by omega))
    have b1 := bstep b0 hb1
    have g1 : w1.cell? ⟨w.heap.size, 0, none⟩ = some (.slice A l.length c) := (bc hb1 w.heap.size 0 (by simp)).trans (by go_simp)
    clear HC HF1 HF2
    go_wp2
    have l1 := World.block_lt_of_cell? w1 _ g1
    refine region_below (DAt [(28, .int .i64 (S p)), (31, .int .i64 (S q))]) (by kernel_rfl) (by kernel_rfl) ?_
    repeat (first | (refine wpRel_plain rfl (fun K hK => ?_); intro w' hb'; have hc' := bc (Bel.out hb'); go_simp; refine ⟨?_, fun v hv => ?_⟩; (go_at_call 30; refine (HS.out _ _ (bstep b1 (Bel.out hb'))).mono ?_; rintro e w'' ⟨rfl, hk⟩; exact ⟨_, rfl, rfl, Bel.step hb' hk⟩); (first | (obtain rfl : v = _ := hv) | (obtain rfl : v = _ := (Option.some.inj hv).symm)); (refine hK _ ?_; clear hK K hb' hc')) | (refine wpRel_plain rfl (fun K hK => ?_); intro w' hb'; have hc' := bc (Bel.out hb'); go_simp; (first | refine hK _ ?_ | refine ⟨(by first | exact hb' | exact Bel.drewN hb' _ | exact Bel.alloc hb' _), hK _ ?_⟩); clear hK K hb' hc'))
    (refine wpRel_nil ?_; intro w2 hb2; replace hb2 := Bel.out hb2; have hc2 := bc hb2; have hf2 := bf hb2; have hs2 := hb2.size; (try simp at hs2); (try have hz20 : w.heap.size < w2.heap.size := by omega); (try have hz21 : w.heap.size + 1 < w2.heap.size := by omega); (try have hz22 : w.heap.size + 1 + 1 < w2.heap.size := by omega); (try have hz23 : w.heap.size + 1 + 1 + 1 < w2.heap.size := by omega))
    have b2 := bstep b1 hb2
    go_wp2
    go_ret2
    rw [HOut.out]
    exact ⟨0, rfl, FV_zero, b2⟩
theorem lone_impl (A : Option Addr) (c : Nat) (l : List (Nat × Nat)) (p q : Nat) (w : World) (hA : Kd.C kD w A l.length l) (hm : l.length ≤ 1048576) (hp : p < 4294967296) (hq : q < 4294967296) :
    Calls Try.prog 13 #[.slice A l.length c, .float .f32 p, .float .f32 q] w (LoQ (loneO l p q) w) := by
  cases hl : lineOk l
  · have e1 : loneO l p q = (0, 1) := by simp [loneO, hl]
    rw [e1]
    exact lone_bad A c l p q w hA hm _ _ _ 1 rfl rfl rfl (by simp [codeL, hl]) (.inl rfl)
  · cases hf : fineL p q
    · have e1 : loneO l p q = (0, 2) := by simp [loneO, hl, hf]
      rw [e1]
      refine lone_bad A c l p q w hA hm _ _ _ 2 rfl rfl rfl ?_ (.inr rfl)
      have : (amountL p && amountL q && flt p q) = false := hf
      simp [codeL, hl, this]
    · exact lone_good A c l p q w hA hm hp hq hl hf
end Go.Proofs.Ythdmfmhhnacgfaa
