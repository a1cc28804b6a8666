/- Choices: the trains and plays of the laws of chapter 6. -/
import Derived.Test.YtpkmmelinfcdaaaDrw4
namespace Go.Proofs.Ytpkmmelinfcdaaa
open Go.RowKit Ieee
open Go.Proofs.YtpkmmelinfcdaaaW.PrintWords
set_option maxRecDepth 100000
attribute [local irreducible] wpRel

/-- Bytes that can be drawn from. -/
structure Bytes (w : World) (A : Option Addr) (xs : List Int) : Prop where
  row : Kd.C kB w A xs.length xs
  bound : ∀ i, i < xs.length → 0 ≤ xs.getD i 0 ∧ xs.getD i 0 ≤ 255
  len : xs.length ≤ 1048576
theorem Bytes.below {w W : World} {A : Option Addr} {xs : List Int} (h : Bytes w A xs) (hb : Below w.heap.size w W) : Bytes W A xs := ⟨Kd.C_below h.row hb, h.bound, h.len⟩
theorem f6big_any (A : Option Addr) (n c : Nat) (hn : n ≤ 9223372036854775807) (w : World) :
    Calls Try.prog 25 #[.slice A n c] w fun e w' => e = .returned (.bool (decide ((4096 : Int) < n))) ∧ w = w' := by
  go_enter Try.func25, Try.ntmps25
  go_wp2
  go_ret
  exact ⟨rfl, rfl⟩
def TrainQ (w : World) (e : Ending) (w' : World) : Prop :=
  ∃ v ts, e = .returned v ∧ RW kP 56 w' w.heap.size v ts ∧ 1 ≤ ts.length ∧ ts.length ≤ 4 ∧ drawn ts ∧ Below w.heap.size w w'
theorem p6Train_any (A : Option Addr) (c : Nat) (xs : List Int) (w : World) (hA : Bytes w A xs) :
    Calls Try.prog 26 #[.slice A xs.length c] w (TrainQ w) := by
  have HA := Lib.hid hA
  clear hA
  go_enter Try.func26, Try.ntmps26
  go_wp2_with fail
  go_at_call 41
  refine (l00From_any A c xs w HA.out.row HA.out.bound HA.out.len).mono ?_
  rintro e w1 ⟨rfl, hb1, hS1⟩
  replace hS1 := Lib.hid hS1
  go_wp2_with fail
  go_at_call 40
  refine (l01Drawn_any _ 0 4 _ hS1.out (by decide) (by decide) (by decide)).mono ?_
  rintro e w2 ⟨v, ts, rfl, hR, h1, h4, hd, hG, _⟩
  have HR := Lib.hid hR
  have HG := Lib.hid hG
  clear hR hG
  go_wp2
  go_ret
  exact ⟨v, ts, rfl, HR.out.lower hb1.size, h1, h4, hd, Gr.below hb1 HG.out (Nat.le_refl _)⟩
section
variable {ops : Array Oper} {rest : List Oper} {o : Oper} {a : Act} {Q : Exit → Act → World → Prop}
/-- append(v, x) of one float, whichever base. -/
theorem apFb (base : Nat) {W : World} {p r : Nat} (hgd : o.guard = none) (s x : Operand) (ho : o.op = .call { callee := .builtin .append, args := #[s, x], argTypes := #[23, 23] })
    (v : Value) (xs : List Nat) (hs : a.eval s = v) (hx : a.eval x = .slice (some ⟨W.heap.size, 0, none⟩) 1 1)
    (HO : RW kf 25 W base v xs) (hb : base ≤ W.heap.size) (hl : xs.length ≤ 1048576) (hp : FV r p)
    (h : ∀ v1 w1, RW kf 25 w1 base v1 (xs ++ [p]) → W.grownBy w1 v.ownBlock → (v1.ownBlock = v.ownBlock ∨ ∃ b, v1.ownBlock = some b ∧ W.heap.size ≤ b) → wpList Try.prog ops Q rest (a.put o.dst v1) w1) :
    wpList Try.prog ops Q (o :: rest) a (W.alloc (.cells #[.float .f32 r] 25)) :=
  Kd.R_append kf (w0 := W) base hgd s x 23 25 (.float .f32 0) 4 ho Try.underlying23 info_f32 rfl (by decide) (by decide) v xs p [.float .f32 r] (fun _ => True) (fun _ => False) hs hx ⟨r, rfl, hp⟩ (fun _ h => h.elim) (fun _ _ => trivial) HO (Below.refl _ _) hb (by omega) fun v1 w1 h1 _ h2 h3 => h v1 w1 h1 h2 h3
end
def isPts (ps : List Nat) : Prop := ∀ i, isPt (ps.getD i 0)
theorem isPts_nil : isPts [] := fun i => by show isPt 0; unfold isPt; omega
theorem isPts_snoc {ps : List Nat} (h : isPts ps) {x : Nat} (hx : isPt x) : isPts (ps ++ [x]) := by
  intro i
  rw [List.getD_eq_getElem?_getD]
  rcases Nat.lt_trichotomy i ps.length with hlt | rfl | hgt
  · rw [List.getElem?_append_left hlt, ← List.getD_eq_getElem?_getD]; exact h i
  · simpa using hx
  · rw [List.getElem?_eq_none (by simp; omega)]; show isPt 0; unfold isPt; omega
def PlaysQ (n : Nat) (w : World) (e : Ending) (w' : World) : Prop :=
  ∃ v ps, e = .returned v ∧ FR w' w.heap.size v ps ∧ ps.length = n ∧ isPts ps ∧ Below w.heap.size w w'
set_option maxHeartbeats 4000000 in
theorem p6Plays_any (A B : Option Addr) (c c' n : Nat) (xs : List Int) (w : World) (hA : Bytes w A xs) (hn : n ≤ 1000) :
    Calls Try.prog 27 #[.slice A xs.length c, .slice B n c'] w (PlaysQ n w) := by
  have HA := Lib.hid hA
  clear hA
  go_enter Try.func27, Try.ntmps27
  go_wp2_with fail
  go_at_call 41
  refine (l00From_any A c xs w HA.out.row HA.out.bound HA.out.len).mono ?_
  rintro e w1 ⟨rfl, hb1, hS1⟩
  have hlt := hS1.lt
  replace hS1 := Lib.hid hS1
  obtain ⟨g, hg⟩ : ∃ g, g = w.heap.size := ⟨_, rfl⟩
  rw [← hg] at hlt hS1 ⊢
  have hgw : w.heap.size ≤ g := by omega
  clear hg
  go_wp2
  go_loopw [6, 7] (fun v i wr => ∃ (k : Nat) (ps : List Nat), k ≤ n ∧ ps.length = k ∧ i = .int .i64 k ∧ Hid (RW kf 25 wr w1.heap.size v ps) ∧ Hid (Gr g w1 wr) ∧ Hid (isPts ps) ∧ Hid (Src wr g (2 * k))) (fun _ i _ => n - (intOf i).toNat)
  case atStart => exact ⟨0, [], Nat.zero_le _, rfl, rfl, Lib.hid (RW.empty (w := w1.alloc (.cells #[] 25)) kf 25 w1.heap.size w1.heap.size (heap_alloc_new w1 _) (Nat.le_refl _)), Lib.hid ((Gr.refl g w1).alloc _), Lib.hid isPts_nil, Lib.hid (hS1.out.below (balloc (Below.refl _ _) _))⟩
  case round =>
    obtain ⟨k, ps, hk, hps, rfl, HR, HG, HP, HS⟩ := hrel
    by_cases hlt2 : k < n
    · have HL := Lib.hid (show ps.length ≤ 1048576 by omega)
      go_wp2_with fail
      go_at_call 42
      refine (pick_any g _ 17 _ HS.out (by omega) (by decide) (by decide)).mono ?_
      rintro e w2 ⟨y, rfl, hy0, hy1, hG2, hS2⟩
      have HR2 := Lib.hid (HR.out.gr rfl hG2 hlt)
      have HG2 := Lib.hid (HG.out.then hG2)
      have HS2 := Lib.hid hS2
      have HPV : Hid (isPt (fdiv (fi y) (cn 1098907648))) := Lib.hid (pick_part hy0 (show y ≤ 16 by omega) (by decide) (by decide) (by decide))
      clear hG2 hS2 HR HG HS
      go_wp2_with (first | ((refine wpList_fop (o := ⟨some 21, _, _, _, _, _⟩) rfl rfl (by first | exact .inl rfl | exact .inr (.inl rfl) | exact .inr (.inr (.inl rfl)) | exact .inr (.inr (.inr rfl))) rfl rfl ?_; intro r21 n21 h21); rw [cn_fi] at h21; have HV := Lib.hid h21; clear h21) | (at_builtin; go_must ((refine apFb w1.heap.size (o := ⟨some 23, _, _, _, _, _⟩) rfl (.tmp 17) (.tmp 22) rfl u6 ps ?y23 ?x23 ?o23 ?b23 HL.out HV.out ?_; (case y23 => rfl); (case x23 => go_simp); (case o23 => apply RW.drewN ; exact HR2.out); (case b23 => have := HG2.out.size ; simp ; omega); intro v23 w23 ho_ hg_ hat_; have HO23 := Lib.hid ho_; have HG23 := Lib.hid (And.intro hg_ hat_); clear ho_ hg_ hat_))))
      go_roundw
      case rel =>
        refine ⟨k + 1, ps ++ [_], hlt2, by simp [hps], by go_num, HO23, Lib.hid (Gr.grown (HG2.out.drewN _) HG23.out.1 (fun j hj => .inr (HR2.out.base_le j hj))), Lib.hid (isPts_snoc HP.out HPV.out), Lib.hid (((HS2.out.below (bdrewN (Below.refl _ _) _)).grown HG23.out.1 (fun j hj => Nat.lt_of_lt_of_le hlt (HR2.out.base_le j hj))).up (by omega))⟩
      case measure => simp [intOf]; omega
    · have hkn : k = n := by omega
      subst hkn
      go_wp2
      go_ret
      exact ⟨_, ps, rfl, (HR.out.lower hb1.size).toF, hps, HP.out, Gr.below hb1 HG.out hgw⟩
/-! ### what is drawn is valid -/
theorem wheels_good : ∀ a, a < 16 → ∀ b, b < 16 → (decide (0 < upV (wheels.getD a 0) (wheels.getD b 0)) && decide (upV (wheels.getD a 0) (wheels.getD b 0) < 2139095040)) = true := by decide +kernel
theorem drawn_ok {ts : List (Int × Int × Nat)} (h : drawn ts) (h1 : 1 ≤ ts.length) (h8 : ts.length ≤ 8) : trainOk ts = true := by
  unfold trainOk
  have hi : iin (ts.length : Int) 1 8 = true := by unfold iin; simp; omega
  rw [hi, Bool.true_and, List.all_eq_true]
  intro p hp
  obtain ⟨i, hi, rfl⟩ := List.getElem_of_mem hp
  have hd := h i hi
  rw [List.getD_eq_getElem?_getD, List.getElem?_eq_getElem hi] at hd
  obtain ⟨⟨a, ha, e1⟩, ⟨b, hb, e2⟩, e3⟩ := hd
  have h1 := wheels_bound a ha
  have h2 := wheels_bound b hb
  simp only [Option.getD_some] at e1 e2 e3
  rw [← e1] at h1
  rw [← e2] at h2
  unfold pairOk pairB
  rw [isPt_part e3]
  unfold iin
  simp
  omega
end Go.Proofs.Ytpkmmelinfcdaaa
