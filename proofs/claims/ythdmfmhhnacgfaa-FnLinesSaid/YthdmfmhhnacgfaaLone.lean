/- The speed at which a line swings by itself: values, the parts' contracts. -/
import Derived.Test.YthdmfmhhnacgfaaCross2
namespace Go.Proofs.Ythdmfmhhnacgfaa
open Go.RowKit Ieee
open Go.Proofs.YthdmfmhhnacgfaaW.PrintWords
set_option maxRecDepth 100000
attribute [local irreducible] wpRel

/-- The twist behind the last disc. -/
def lastV (l : List (Nat × Nat)) (q : Nat) : Nat := (ans l q (l.length - 1)).2
def half (a b : Nat) : Nat := fdiv (fadd a b) 1073741824
/-- d halvings. -/
def bis (g : Nat → Bool) : Nat → Nat → Nat → Nat
  | 0, a, _ => a
  | d + 1, a, b => if g (half a b) = true then bis g d (half a b) b else bis g d a (half a b)
theorem bis_hit {g : Nat → Bool} {n k a b : Nat} (hk : k < n) (h : g (half a b) = true) : bis g (n - k) a b = bis g (n - (k + 1)) (half a b) b := by
  obtain ⟨d, hd⟩ : ∃ d, n - k = d + 1 := ⟨n - k - 1, by omega⟩
  rw [hd, bis, if_pos h, show n - (k + 1) = d by omega]
theorem bis_miss {g : Nat → Bool} {n k a b : Nat} (hk : k < n) (h : g (half a b) = false) : bis g (n - k) a b = bis g (n - (k + 1)) a (half a b) := by
  obtain ⟨d, hd⟩ : ∃ d, n - k = d + 1 := ⟨n - k - 1, by omega⟩
  rw [hd, bis, if_neg (by rw [h]; exact Bool.false_ne_true), show n - (k + 1) = d by omega]
def FltQ (x : Nat) (w : World) (e : Ending) (w' : World) : Prop := ∃ r, e = .returned (.float .f32 r) ∧ FV r x ∧ Below w.heap.size w w'

theorem l07Last_any (A : Option Addr) (c : Nat) (l : List (Nat × Nat)) (q : Nat) (w : World) (hA : Kd.C kD w A l.length l) (h0 : 0 < l.length) (hm : l.length ≤ 1048576) :
    Calls Try.prog 35 #[.slice A l.length c, .float .f32 q] w (FltQ (lastV l (cn q)) w) := by
  have HC := Lib.hid (fun c => answer_spec A c l q w hA h0 hm)
  clear hA
  obtain ⟨j, hj⟩ : ∃ j, l.length = j + 1 := ⟨l.length - 1, by omega⟩
  have HV := Lib.hid (show lastV l (cn q) = (ans l (cn q) j).2 by unfold lastV; rw [hj]; rfl)
  rw [hj] at HC ⊢
  have HJ := Lib.hid hj
  have hjm : j ≤ 1048576 := by omega
  have hj1 : (j : Int) < (j : Int) + 1 := by omega
  clear hj hm h0
  go_enter Try.func35, Try.ntmps35
  go_wp2_with (go_at_call 22; refine (HC.out _).mono ?_; rintro e w1 ⟨v, v2, rfl, _, h1, _, hb1⟩; rw [HJ.out] at h1; obtain ⟨g1, cc1, x1, rfl, hg1, e1, hx1⟩ := at_FR h1 (j + 1) (twL_length _ _ _) j (Nat.lt_succ_self j); rw [twL_get _ _ (Nat.lt_succ_self j)] at hx1; have HX := Lib.hid hx1; clear h1 hx1)
  go_ret
  exact ⟨x1, rfl, by rw [HV.out]; exact HX.out, hb1⟩
theorem lastSign_any (A : Option Addr) (c : Nat) (l : List (Nat × Nat)) (q : Nat) (w : World) (hA : Kd.C kD w A l.length l) (h0 : 0 < l.length) (hm : l.length ≤ 1048576) :
    Calls Try.prog 30 #[.slice A l.length c, .float .f32 q] w fun e w' => e = .returned (.int .i64 (sgnV (lastV l (cn q)))) ∧ Below w.heap.size w w' := by
  have HC := Lib.hid (fun c => answers_impl A c l q w hA hm)
  clear hA
  obtain ⟨j, hj⟩ : ∃ j, l.length = j + 1 := ⟨l.length - 1, by omega⟩
  have HV := Lib.hid (show lastV l (cn q) = (ans l (cn q) j).2 by unfold lastV; rw [hj]; rfl)
  rw [hj] at HC ⊢
  have HJ := Lib.hid hj
  have hjm : j ≤ 1048576 := by omega
  have hj1 : (j : Int) < (j : Int) + 1 := by omega
  clear hj hm h0
  go_enter Try.func30, Try.ntmps30
  go_wp2_with (go_at_call 20; refine (HC.out _).mono ?_; rintro e w1 ⟨v, v2, rfl, _, h1, _, hb1⟩; rw [HJ.out] at h1; obtain ⟨g1, cc1, x1, rfl, hg1, e1, hx1⟩ := at_FR h1 (j + 1) (twL_length _ _ _) j (Nat.lt_succ_self j); rw [twL_get _ _ (Nat.lt_succ_self j)] at hx1; have HX := Lib.hid (fun w => sign_any _ _ hx1 w); clear h1 hx1)
  go_at_call 24
  refine (HX.out _).mono ?_
  rintro e w' ⟨rfl, rfl⟩
  go_wp2
  go_ret
  exact ⟨by rw [HV.out]; rfl, hb1⟩
theorem halved_any (a b : Nat) (w : World) :
    Calls Try.prog 39 #[.float .f32 a, .float .f32 b] w (FltQ (half (cn a) (cn b)) w) := by
  go_enter Try.func39, Try.ntmps39
  go_wp2_with (first | (refine wpList_fop (o := ⟨some 7, _, _, _, _, _⟩) rfl rfl (by first | exact .inl rfl | exact .inr (.inl rfl) | exact .inr (.inr (.inl rfl)) | exact .inr (.inr (.inr rfl))) rfl rfl ?_; intro r7 n7 h7) | (refine wpList_fop (o := ⟨some 8, _, _, _, _, _⟩) rfl rfl (by first | exact .inl rfl | exact .inr (.inl rfl) | exact .inr (.inr (.inl rfl)) | exact .inr (.inr (.inr rfl))) rfl rfl ?_; intro r8 n8 h8))
  go_ret
  exact ⟨_, rfl, by rw [h7.1] at h8; exact h8, by (repeat (first | with_reducible exact Below.refl _ _ | with_reducible refine bset ?_ (by first | (simp; done) | (simp; omega) | omega) _ | with_reducible refine balloc ?_ _ | with_reducible refine bdrewN ?_ _ | with_reducible refine bdrew ?_ | with_reducible refine bstep ?_ (by assumption)))⟩
theorem lone1_any (A : Option Addr) (c : Nat) (l : List (Nat × Nat)) (q g h : Nat) (s : Int) (w : World) (hA : Kd.C kD w A l.length l) (h0 : 0 < l.length) (hm : l.length ≤ 1048576)
    (hg : w.cell? ⟨g, 0, none⟩ = some (.slice A l.length c)) (hh : w.cell? ⟨h, 0, none⟩ = some (.int .i64 s)) :
    Calls Try.prog 32 #[.float .f32 q, .pointer (some ⟨g, 0, none⟩), .pointer (some ⟨h, 0, none⟩)] w fun e w' => e = .returned (.bool (decide (sgnV (lastV l (cn q)) = s))) ∧ Below w.heap.size w w' := by
  have HC : Hid (∀ w1, Below w.heap.size w w1 → Calls Try.prog 30 #[.slice A l.length c, .float .f32 q] w1 fun e w' => e = .returned (.int .i64 (sgnV (lastV l (cn q)))) ∧ Below w1.heap.size w1 w') := Lib.hid fun w1 hb => lastSign_any A c l q w1 (Kd.C_below hA hb) h0 hm
  have hgl := World.block_lt_of_cell? w _ hg
  have hhl := World.block_lt_of_cell? w _ hh
  clear hA
  generalize sgnV (lastV l (cn q)) = u at *
  go_enter Try.func32, Try.ntmps32
  go_wp2
  refine region_below (DIs (.int .i64 u)) (by kernel_rfl) (by kernel_rfl) ?_
  repeat (first | (refine wpRel_plain rfl (fun K hK => ?_); intro w' hb'; have hc' := bc (Bel.out hb'); go_simp; refine ⟨?_, fun v hv => ?_⟩; (go_at_call 30; refine (HC.out _ (Bel.out hb')).mono ?_; rintro e w'' ⟨rfl, hk⟩; exact ⟨_, rfl, rfl, Bel.step hb' hk⟩); (first | (obtain rfl : v = _ := hv) | (obtain rfl : v = _ := (Option.some.inj hv).symm)); (refine hK _ ?_; clear hK K hb' hc')) | (refine wpRel_plain rfl (fun K hK => ?_); intro w' hb'; have hc' := bc (Bel.out hb'); go_simp; (first | refine hK _ ?_ | refine ⟨(by first | exact hb' | exact Bel.drewN hb' _ | exact Bel.alloc hb' _), hK _ ?_⟩); clear hK K hb' hc'))
  (refine wpRel_nil ?_; intro w1 hb1; replace hb1 := Bel.out hb1; have hc1 := bc hb1; have hf1 := bf hb1; have hs1 := hb1.size; (try simp at hs1); (try have hz10 : w.heap.size < w1.heap.size := by omega); (try have hz11 : w.heap.size + 1 < w1.heap.size := by omega); (try have hz12 : w.heap.size + 1 + 1 < w1.heap.size := by omega); (try have hz13 : w.heap.size + 1 + 1 + 1 < w1.heap.size := by omega))
  go_wp2
  go_ret
  exact ⟨by first | rfl | simp, hb1⟩
set_option maxHeartbeats 4000000 in
theorem search_any (A : Option Addr) (c : Nat) (l : List (Nat × Nat)) (p q g h : Nat) (s : Int) (w : World) (hA : Kd.C kD w A l.length l) (h0 : 0 < l.length) (hm : l.length ≤ 1048576) (hp : p < 4294967296) (hq : q < 4294967296)
    (hg : w.cell? ⟨g, 0, none⟩ = some (.slice A l.length c)) (hh : w.cell? ⟨h, 0, none⟩ = some (.int .i64 s)) :
    Calls Try.prog 31 #[.float .f32 p, .float .f32 q, .func (.func 32) #[] #[.pointer (some ⟨g, 0, none⟩), .pointer (some ⟨h, 0, none⟩)]] w (FltQ (bis (fun m => decide (sgnV (lastV l m) = s)) 40 (cn p) (cn q)) w) := by
  have hgl := World.block_lt_of_cell? w _ hg
  have hhl := World.block_lt_of_cell? w _ hh
  have HC : Hid (∀ w1 x, Below w.heap.size w w1 → Calls Try.prog 32 #[.float .f32 x, .pointer (some ⟨g, 0, none⟩), .pointer (some ⟨h, 0, none⟩)] w1 fun e w' => e = .returned (.bool (decide (sgnV (lastV l (cn x)) = s))) ∧ Below w1.heap.size w1 w') := Lib.hid fun w1 x hb => lone1_any A c l x g h s w1 (Kd.C_below hA hb) h0 hm ((bc hb g 0 hgl).trans hg) ((bc hb h 0 hhl).trans hh)
  obtain ⟨G, hG⟩ : ∃ G : Nat → Bool, G = fun m => decide (sgnV (lastV l m) = s) := ⟨_, rfl⟩
  have HG : Hid (∀ m, decide (sgnV (lastV l m) = s) = G m) := Lib.hid fun m => by rw [hG]
  rw [← hG]
  obtain ⟨z, hz⟩ : ∃ z, z = bis G 40 (cn p) (cn q) := ⟨_, rfl⟩
  have HZ := Lib.hid (show bis G (40 - 0) (cn p) (cn q) = z from hz.symm)
  rw [← hz]
  clear hz hG hA hg hh
  go_enter Try.func31, Try.ntmps31
  go_wp2
  go_loopw [0, 1, 8] (fun a b i wr => ∃ k x y r t : Nat, k ≤ 40 ∧ i = .int .i64 k ∧ a = .float .f32 r ∧ b = .float .f32 t ∧ Hid (FV r x) ∧ Hid (FV t y) ∧ Hid (bis G (40 - k) x y = z) ∧ Below w.heap.size w wr) (fun _ _ i _ => 40 - (intOf i).toNat)
  case atStart => exact ⟨0, cn p, cn q, p, q, by omega, rfl, rfl, rfl, Lib.hid ⟨rfl, hp⟩, Lib.hid ⟨rfl, hq⟩, HZ, Below.refl _ _⟩
  case round =>
    obtain ⟨k, x, y, r, t, hk, rfl, rfl, rfl, HX, HY, HB, hb⟩ := hrel
    clear HZ
    by_cases hlt : k < 40
    · go_wp2_with fail
      go_at_call 39
      refine (halved_any _ _ _).mono ?_
      rintro e w1 ⟨m, rfl, hm1, hb1⟩
      rw [HX.out.1, HY.out.1] at hm1
      have HM := Lib.hid hm1
      have b1 := bstep hb hb1
      have HCl := Lib.hid (HC.out _ m b1)
      rw [hm1.1, HG.out] at HCl
      clear hm1
      go_wp2_with fail
      go_at_call 32
      refine (HCl.out).mono ?_
      rintro e w2 ⟨rfl, hb2⟩
      have b2 := bstep b1 hb2
      cases hgv : G (half x y)
      · have HN := Lib.hid ((bis_miss hlt hgv).symm.trans HB.out)
        go_wp2
        go_roundw
        case rel => exact ⟨k + 1, x, half x y, r, m, by omega, by go_num, rfl, rfl, HX, HM, HN, b2⟩
        case measure => simp [intOf]; omega
      · have HN := Lib.hid ((bis_hit hlt hgv).symm.trans HB.out)
        go_wp2
        go_roundw
        case rel => exact ⟨k + 1, half x y, y, m, t, by omega, by go_num, rfl, rfl, HM, HY, HN, b2⟩
        case measure => simp [intOf]; omega
    · obtain rfl : k = 40 := by omega
      have HN := Lib.hid (show x = z by have := HB.out; rwa [Nat.sub_self] at this)
      go_wp2
      go_ret
      exact ⟨r, rfl, by rw [← HN.out]; exact HX.out, hb⟩
end Go.Proofs.Ythdmfmhhnacgfaa
