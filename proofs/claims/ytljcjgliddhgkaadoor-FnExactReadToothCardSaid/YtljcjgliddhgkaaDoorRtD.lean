/- A tooth read from a text: both sides agree, and the law. -/
import Derived.Test.YtljcjgliddhgkaaDoorRtC
import Derived.Test.YtljcjgliddhgkaaDoorTooth2
namespace Go.Proofs.YtljcjgliddhgkaaDoor
open Go.RowKit Ieee
open Go.Proofs.YtljcjgliddhgkaaDoorW.PrintWords
set_option maxRecDepth 100000
attribute [local irreducible] wpRel
theorem fin_cn (a b r : Nat) : fin a b (cn r) = fin a b r := by
  have h1 : fle a (cn r) = fle a r := by rw [← fle_cn a (cn r), cn_cn, fle_cn]
  have h2 : fle (cn r) b = fle r b := by rw [← fle_cn (cn r) b, cn_cn, fle_cn]
  unfold fin
  rw [h1, h2]
theorem okTooth_cn (h x y : Nat) (s : Int) : okTooth (cn h) (cn x) (cn y) s = okTooth h x y s := by
  unfold okTooth part
  rw [fin_cn, fin_cn, fin_cn]
theorem rdOk_hex {l : List UInt8} (h : rdOk l = true) : hexL (rdN l 0) = l := by
  unfold rdOk at h
  simp only [Bool.and_eq_true, decide_eq_true_eq] at h
  exact (hexL_rdN h.1.1 h.1.2).1
theorem join4 (l a b c d : List UInt8) (h : splC 44 l = [a, b, c, d]) : l = a ++ 44 :: b ++ 44 :: c ++ 44 :: d := by
  have := join_splC 44 l
  rw [h] at this
  rw [← this]
  simp [List.intercalate, List.intersperse]
/-- When the text made of what was read is the text that was read. -/
theorem rt_agree {l a b c d : List UInt8} (hx : splC 44 l = [a, b, c, d]) (ka : rdOk a = true) (kb : rdOk b = true) (kc : rdOk c = true) {h x y : Nat} (eh : cn h = rdN a 0) (ex : cn x = rdN b 0) (ey : cn y = rdN c 0) {sd : Int} (hd : sd = if d = [49] then 1 else 0) :
    txV h x y sd = l ↔ (d = [48] ∨ d = [49]) ∧ okTooth (rdN a 0) (rdN b 0) (rdN c 0) sd = true := by
  have hl := join4 l a b c d hx
  rw [← eh, ← ex, ← ey, okTooth_cn]
  unfold txV
  cases hk : okTooth h x y sd
  · simp only [Bool.false_eq_true, if_false, and_false, iff_false]
    rw [hl]
    intro e
    have := congrArg List.length e
    simp at this
  · rw [if_pos rfl]
    simp only [and_true]
    unfold txT
    rw [eh, ex, ey, rdOk_hex ka, rdOk_hex kb, rdOk_hex kc, hl]
    constructor
    · intro e
      have e2 : a ++ 44 :: b ++ 44 :: c ++ 44 :: [dS sd] = a ++ 44 :: b ++ 44 :: c ++ 44 :: d := e
      have e3 := List.append_cancel_left e2
      injection e3 with _ e4
      by_cases h49 : d = [49]
      · exact .inr h49
      · rw [if_neg h49] at hd
        subst hd
        exact .inl e4.symm
    · rintro (rfl | rfl)
      · have : sd = 0 := by rw [hd]; rfl
        subst this; rfl
      · have : sd = 1 := by rw [hd]; rfl
        subst this; rfl
def Rt5 (H X Y : Nat) (z k : Int) (h x y : Nat) (s k' : Int) : Prop := cn h = H ∧ cn x = X ∧ cn y = Y ∧ s = z ∧ k' = k
theorem cn_0 : cn 0 = 0 := by decide
theorem RtQ.imp {P P' : Nat → Nat → Nat → Int → Int → Prop} (hp : ∀ h x y s k, P h x y s k → P' h x y s k) {w : World} {e : Ending} {w' : World} (h : RtQ P w e w') : RtQ P' w e w' := by
  obtain ⟨h, x, y, s, k, he, hP, hb⟩ := h
  exact ⟨h, x, y, s, k, he, hp _ _ _ _ _ hP, hb⟩
theorem Rt5.no (h x y : Nat) (s k : Int) : RtNo h x y s k → Rt5 0 0 0 0 5 h x y s k := by
  rintro ⟨rfl, rfl, rfl, rfl, rfl⟩
  exact ⟨cn_0, cn_0, cn_0, rfl, rfl⟩
theorem splC_lens (c : UInt8) : ∀ l : List UInt8, ∀ x ∈ splC c l, x.length ≤ l.length := by
  intro l
  induction l with
  | nil => intro x hx; simp [splC] at hx; subst hx; simp
  | cons b l ih =>
    intro x hx
    obtain ⟨h, t, e⟩ := splC_cons c l
    by_cases hb : b = c
    · rw [splC, if_pos hb] at hx
      rcases List.mem_cons.1 hx with rfl | hx
      · simp
      · have := ih x hx; simp; omega
    · rw [splC, if_neg hb, e] at hx
      rcases List.mem_cons.1 hx with rfl | hx
      · have := ih h (by rw [e]; exact List.mem_cons_self)
        simp [List.headD]; omega
      · have := ih x (by rw [e]; exact List.mem_cons_of_mem _ hx)
        simp; omega
/-- Both sides give one and the same. -/
theorem readTooth_both (s : ByteArray) (m : Int) (hs : s.size ≤ 1048576) : ∃ (H X Y : Nat) (z k : Int),
    (∀ w, Calls Tryd.prog 9 #[.string s] w (RtQ (Rt5 H X Y z k) w)) ∧
    (∀ w : World, w.cell? ⟨2, 0, none⟩ = some (.int .i64 m) → Calls Tryd.prog 10 #[.string s] w (RtQ (Rt5 H X Y z k) w)) := by
  obtain ⟨xs, hx⟩ : ∃ xs, splC 44 s.data.toList = xs := ⟨_, rfl⟩
  have hln : s.data.toList.length = s.size := rfl
  have hB : ∀ x ∈ xs, x.length ≤ 1048577 := fun x h => by
    have := splC_lens 44 s.data.toList x (by rw [hx]; exact h)
    omega
  by_cases h4 : xs.length = 4
  · match xs, h4, hx, hB with
    | [a, b, c, d], _, hx, hB =>
      have ha := hB a (by simp)
      have hb := hB b (by simp)
      have hc := hB c (by simp)
      have hd := hB d (by simp)
      have hB3 : ∀ x ∈ [a, b, c], x.length ≤ 1048577 := fun x hm => hB x (by simp only [List.mem_cons, List.not_mem_nil, or_false] at hm ⊢; rcases hm with rfl | rfl | rfl <;> simp)
      have bad : (∀ w, Calls Tryd.prog 9 #[.string s] w (RtQ RtNo w)) → [a, b, c].all rdOk = false → ∃ (H X Y : Nat) (z k : Int),
          (∀ w, Calls Tryd.prog 9 #[.string s] w (RtQ (Rt5 H X Y z k) w)) ∧
          (∀ w : World, w.cell? ⟨2, 0, none⟩ = some (.int .i64 m) → Calls Tryd.prog 10 #[.string s] w (RtQ (Rt5 H X Y z k) w)) := fun h1 h2 =>
        ⟨0, 0, 0, 0, 5, fun w => (h1 w).mono fun _ _ h => h.imp Rt5.no, fun w hm => (readTooth_impl_no s m hs a b c d hx hB3 h2 w hm).mono fun _ _ h => h.imp Rt5.no⟩
      cases ka : rdOk a
      · exact bad (fun w => readTooth_spec_w0 s hs a b c d hx ha ka w) (by simp [ka])
      cases kb : rdOk b
      · exact bad (fun w => readTooth_spec_w1 s hs a b c d hx ha hb ka kb w) (by simp [ka, kb])
      cases kc : rdOk c
      · exact bad (fun w => readTooth_spec_w2 s hs a b c d hx ha hb hc ka kb kc w) (by simp [ka, kb, kc])
      have hall : [a, b, c].all rdOk = true := by simp [ka, kb, kc]
      obtain ⟨sd, hsd⟩ : ∃ sd : Int, sd = if d = [49] then 1 else 0 := ⟨_, rfl⟩
      have himp := fun w hm => readTooth_impl_ok sd s m hs a b c d hx hB3 hall hsd w hm
      have bad2 : (∀ w, Calls Tryd.prog 9 #[.string s] w (RtQ RtNo w)) → ¬ ((d = [48] ∨ d = [49]) ∧ okTooth (rdN a 0) (rdN b 0) (rdN c 0) sd = true) → ∃ (H X Y : Nat) (z k : Int),
          (∀ w, Calls Tryd.prog 9 #[.string s] w (RtQ (Rt5 H X Y z k) w)) ∧
          (∀ w : World, w.cell? ⟨2, 0, none⟩ = some (.int .i64 m) → Calls Tryd.prog 10 #[.string s] w (RtQ (Rt5 H X Y z k) w)) := fun h1 h2 =>
        ⟨0, 0, 0, 0, 5, fun w => (h1 w).mono fun _ _ h => h.imp Rt5.no, fun w hm => (himp w hm).mono fun _ _ h => h.imp fun h x y z k hp => by
          obtain ⟨_, h', x', y', e1, e2, e3, ⟨ht, _⟩ | ⟨_, hn⟩⟩ := hp
          · exact absurd ((rt_agree hx ka kb kc e1 e2 e3 hsd).1 ht) h2
          · exact Rt5.no _ _ _ _ _ hn⟩
      by_cases h01 : d = [48] ∨ d = [49]
      · have h01' := (nm_01 d).2 h01
        have hv : (nmV d 0 : Int) = sd := by
          rcases h01 with rfl | rfl
          · rw [hsd]; rfl
          · rw [hsd]; rfl
        cases k5 : okTooth (rdN a 0) (rdN b 0) (rdN c 0) sd
        · exact bad2 (fun w => readTooth_spec_f s hs a b c d hx ha hb hc _ _ _ rfl rfl rfl ka kb kc hd h01'.1 h01'.2 (by rw [hv]; exact k5) w) (fun h => by rw [k5] at h; cases h.2)
        · refine ⟨rdN a 0, rdN b 0, rdN c 0, sd, 0, fun w => (readTooth_spec_y s hs a b c d hx ha hb hc _ _ _ rfl rfl rfl ka kb kc hd h01'.1 h01'.2 (by rw [hv]; exact k5) w).mono fun _ _ h => h.imp ?_, fun w hm => (himp w hm).mono fun _ _ h => h.imp ?_⟩
          · rintro h x y z k ⟨rfl, rfl, rfl, rfl, rfl⟩
            have cnr : ∀ l : List UInt8, rdOk l = true → cn (rdN l 0) = rdN l 0 := fun l hl => by
              unfold rdOk at hl
              simp only [Bool.and_eq_true, decide_eq_true_eq] at hl
              exact hl.2
            exact ⟨cnr a ka, cnr b kb, cnr c kc, hv, rfl⟩
          · rintro h x y z k ⟨_, h', x', y', e1, e2, e3, ⟨_, rfl, rfl, rfl, rfl, rfl⟩ | ⟨hn, _⟩⟩
            · exact ⟨e1, e2, e3, rfl, rfl⟩
            · exact absurd ((rt_agree hx ka kb kc e1 e2 e3 hsd).2 ⟨h01, k5⟩) hn
      · have h01' : ¬ (nmOk d = true ∧ nmV d 0 ≤ 1) := fun h => h01 ((nm_01 d).1 h)
        cases k3 : nmOk d
        · exact bad2 (fun w => readTooth_spec_d s hs a b c d hx ha hb hc _ _ _ rfl rfl rfl ka kb kc hd k3 w) (fun h => h01 h.1)
        · exact bad2 (fun w => readTooth_spec_e s hs a b c d hx ha hb hc _ _ _ rfl rfl rfl ka kb kc hd k3 (by rw [k3] at h01'; have : ¬ nmV d 0 ≤ 1 := fun h => h01' ⟨rfl, h⟩; omega) w) (fun h => h01 h.1)
  · exact ⟨0, 0, 0, 0, 5, fun w => (readTooth_spec_len s hs xs hx h4 w).mono fun _ _ h => h.imp Rt5.no, fun w hm => (readTooth_impl_len s m hs xs hx h4 w hm).mono fun _ _ h => h.imp Rt5.no⟩
set_option maxHeartbeats 1000000 in
theorem law_readTooth (s : ByteArray) (ws : s.size ≤ 9223372036854775807) (m : Int) (w : World) (hm : w.cell? ⟨2, 0, none⟩ = some (.int .i64 m)) :
    Calls Tryd.prog 4 #[.string s] w fun e w' => e = .returned (.bool true) ∧ Below w.heap.size w w' := by
  by_cases hs : s.size ≤ 1048576
  · obtain ⟨H, X, Y, z, k, h1, h2⟩ := readTooth_both s m hs
    have H1 := Lib.hid h1
    have H2 := Lib.hid h2
    have HM := Lib.hid hm
    have x1 : (s.size : Int) ≤ 1048576 := by omega
    have hg := World.block_lt_of_cell? w _ hm
    clear h1 h2 hm ws hs
    go_enter Tryd.func4, Tryd.ntmps4
    go_wp2_with (first
      | (go_at_call 9; refine (H1.out _).mono ?_; rintro e w1 ⟨h, x, y, z', k', rfl, ⟨e1, e2, e3, ez, ek⟩, hb1⟩; subst ez; subst ek; have HE := Lib.hid (And.intro e1 (And.intro e2 e3)); clear e1 e2 e3; have hc1 := bc hb1; have hf1 := bf hb1; have hs1 := hb1.size; (try simp at hs1); (try have hz10 : w.heap.size < w1.heap.size := by omega); (try have hz11 : w.heap.size + 1 < w1.heap.size := by omega); (try have hz12 : w.heap.size + 1 + 1 < w1.heap.size := by omega); (try have hz13 : w.heap.size + 1 + 1 + 1 < w1.heap.size := by omega))
      | (go_at_call 10; refine (H2.out _ ((bc (balloc hb1 _) _ 0 hg).trans HM.out)).mono ?_; rintro e w2 ⟨h', x', y', z'', k'', rfl, ⟨e1, e2, e3, ez, ek⟩, hb2⟩; replace ez := ez.symm; replace ek := ek.symm; subst ez; subst ek; have HE2 := Lib.hid (And.intro e1 (And.intro e2 e3)); clear e1 e2 e3; have hc2 := bc hb2; have hf2 := bf hb2; have hs2 := hb2.size; (try simp at hs2); (try have hz20 : w.heap.size < w2.heap.size := by omega); (try have hz21 : w.heap.size + 1 < w2.heap.size := by omega); (try have hz22 : w.heap.size + 1 + 1 < w2.heap.size := by omega); (try have hz23 : w.heap.size + 1 + 1 + 1 < w2.heap.size := by omega); (have hyy : w1.heap.size < w2.heap.size := by have hh := hb2.size; simp at hh; omega); (have k20 : w2.cell? ⟨w1.heap.size, 0, none⟩ = some (.float .f32 h) := (hc2 w1.heap.size 0 (by first | omega | (simp; done) | (simp; omega))).trans (by go_simp)); (have k21 : w2.cell? ⟨w1.heap.size, 1, none⟩ = some (.float .f32 x) := (hc2 w1.heap.size 1 (by first | omega | (simp; done) | (simp; omega))).trans (by go_simp)); (have k22 : w2.cell? ⟨w1.heap.size, 2, none⟩ = some (.float .f32 y) := (hc2 w1.heap.size 2 (by first | omega | (simp; done) | (simp; omega))).trans (by go_simp)); (have k23 : w2.cell? ⟨w1.heap.size, 3, none⟩ = some (.int .i8 z') := (hc2 w1.heap.size 3 (by first | omega | (simp; done) | (simp; omega))).trans (by go_simp)))
      | (go_at_call 11; refine (eqTooth_any _ _ _ _ _ _ _ (HE2.out.1.trans HE.out.1.symm) (HE2.out.2.1.trans HE.out.2.1.symm) (HE2.out.2.2.trans HE.out.2.2.symm) _).mono ?_; rintro e w3 ⟨rfl, hb3⟩; have hc3 := bc hb3; have hf3 := bf hb3; have hs3 := hb3.size; (try simp at hs3); (try have hz30 : w.heap.size < w3.heap.size := by omega); (try have hz31 : w.heap.size + 1 < w3.heap.size := by omega); (try have hz32 : w.heap.size + 1 + 1 < w3.heap.size := by omega); (try have hz33 : w.heap.size + 1 + 1 + 1 < w3.heap.size := by omega); (try have hy320 : w2.heap.size < w3.heap.size := by omega); (try have hy321 : w2.heap.size + 1 < w3.heap.size := by omega)))
    all_goals (go_ret; refine ⟨by simp, ?_⟩)
    all_goals (repeat (first | with_reducible exact Below.refl _ _ | with_reducible refine bset ?_ (by first | (simp; done) | (simp; omega) | omega) _ | with_reducible refine balloc ?_ _ | with_reducible refine bdrewN ?_ _ | with_reducible refine bdrew ?_ | with_reducible refine bstep ?_ (by assumption)))
  · have x1 : (1048576 : Int) < (s.size : Int) := by omega
    clear hs
    go_enter Tryd.func4, Tryd.ntmps4
    go_wp2
    go_ret
    exact ⟨rfl, Below.refl _ _⟩
end Go.Proofs.YtljcjgliddhgkaaDoor
