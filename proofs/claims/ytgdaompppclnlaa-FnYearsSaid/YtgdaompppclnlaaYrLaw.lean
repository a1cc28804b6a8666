/- The plain law of years: teeth stay valid; changes lie where they are told; quiet weeks. -/
import Derived.Test.YtgdaompppclnlaaSgn
import Derived.Test.YtgdaompppclnlaaDrw3
import Derived.Test.YtgdaompppclnlaaYearA
namespace Go.Proofs.Ytgdaompppclnlaa
open Go.RowKit Ieee
set_option maxRecDepth 100000

/-- A tooth within its bounds. -/
def tD (x : Tth) : Prop := (1065353216 ≤ x.1 ∧ x.1 ≤ 1199570944) ∧ x.2.1 ≤ 1065353216 ∧ x.2.2.1 ≤ 1065353216 ∧ (x.2.2.2 = 0 ∨ x.2.2.2 = 1)
def drawnT (l : List Tth) : Prop := ∀ i, i < l.length → tD (l.getD i zT)
theorem drawnT_nil : drawnT [] := fun i h => absurd h (Nat.not_lt_zero i)
theorem drawnT_snoc {l : List Tth} (h : drawnT l) {p : Tth} (hp : tD p) : drawnT (l ++ [p]) := by
  intro i hi
  rw [List.getD_eq_getElem?_getD]
  by_cases hlt : i < l.length
  · rw [List.getElem?_append_left hlt, ← List.getD_eq_getElem?_getD]; exact h i hlt
  · have : i = l.length := by simp at hi; omega
    subst this
    simpa using hp
theorem nn_fin' {a b x : Nat} (ha : nn a) (hb : nn b) (h1 : a ≤ x) (h2 : x ≤ b) : fin a b x = true := by
  have hx : nn x := Nat.le_trans h2 hb
  unfold fin
  rw [nn_fle ha hx, nn_fle hx hb]
  simp [h1, h2]
theorem tD_ok {x : Tth} (h : tD x) : okT x = true := by
  obtain ⟨⟨h1, h2⟩, h3, h4, h5⟩ := h
  unfold okT okTooth
  rw [nn_fin' (by unfold nn; omega) (by unfold nn; omega) h1 h2, isPt_part (show isPt x.2.1 from h3), isPt_part (show isPt x.2.2.1 from h4)]
  unfold iin
  rcases h5 with h5 | h5 <;> simp [h5]
theorem drawnT_all {l : List Tth} (h : drawnT l) : l.all okT = true := by
  rw [List.all_eq_true]
  intro x hx
  obtain ⟨i, hi, rfl⟩ := List.getElem_of_mem hx
  have := h i hi
  rw [List.getD_eq_getElem?_getD, List.getElem?_eq_getElem hi] at this
  exact tD_ok this
theorem tD_ch {lim : Nat} {x : Tth} (h : tD x) : tD (chT lim x).1 := by
  obtain ⟨h1, h3, h4, h5⟩ := h
  unfold chT
  split
  · split
    · exact ⟨h1, Nat.zero_le _, Nat.zero_le _, .inl rfl⟩
    · refine ⟨h1, h3, h4, ?_⟩
      show 1 - x.2.2.2 = 0 ∨ 1 - x.2.2.2 = 1
      omega
  · exact ⟨h1, h3, h4, h5⟩
/-- A load: from nought up, or nought with a sign. -/
def loadOk (y : Nat) : Prop := y ≤ 1233125376 ∨ y = 2147483648
theorem worn_part {h u l : Nat} (h1 : 1065353216 ≤ h) (h2 : h ≤ 1199570944) (hu : u ≤ 1065353216) (hl : loadOk l) : wornV h u l ≤ 1065353216 := by
  have nu : nn u := by unfold nn; omega
  have nh : nn h := by unfold nn; omega
  have key : ∀ z, nn z → fmin1 z ≤ 1065353216 := fun z hz => by
    unfold fmin1
    rw [nn_flt (by unfold nn; omega) hz]
    split
    · omega
    · rename_i hc; simp at hc; omega
  have ny : fadd 1065353216 u ≤ 1073741824 := Nat.le_trans (fadd_mono (x' := 1065353216) (y' := 1065353216) (by unfold nn; omega) (by unfold nn; omega) (Nat.le_refl _) hu) (by decide)
  unfold wornV
  rw [nn_cn nu, nn_cn nh]
  rcases hl with hl | hl
  · rw [nn_cn (show nn l by unfold nn; omega)]
    have hz : fmul l (fadd 1065353216 u) ≤ 1241513984 := Nat.le_trans (fmul_le hl ny (by omega) (by omega) (by decide) (by decide)) (by decide)
    exact key _ (nn_fadd nu (nn_fdiv (by unfold infW; omega) (by omega) (by unfold infW; omega)))
  · subst hl
    have e0 : cn 2147483648 = sw true 0 := by decide
    have e1 : fmul 0 (fadd 1065353216 u) = 0 := by rw [fmul_comm (by decide) (by unfold infW; omega)]; exact fmul_by_zero (by unfold infW; omega)
    rw [e0, fmul_sw true (by decide) (by unfold infW; omega), e1, fdiv_sw true (by decide) (by omega) (by unfold infW; omega), fdiv_by_zero (by omega) (by unfold infW; omega)]
    rw [show sw true 0 = 2147483648 from rfl, fadd_negzero (by unfold infW; omega)]
    exact key _ nu
theorem tD_worn {x : Tth} {l : Nat} (h : tD x) (hl : loadOk l) : tD (wornT x l) := by
  obtain ⟨h1, h3, h4, h5⟩ := h
  unfold wornT
  split
  · exact ⟨h1, worn_part h1.1 h1.2 h3 hl, h4, h5⟩
  · exact ⟨h1, h3, worn_part h1.1 h1.2 h4 hl, h5⟩
/-! ### loads -/
def magV (t : List (Int × Int × Nat)) (x : Nat) : Nat → Nat
  | 0 => x
  | i + 1 => fmul (fmul (magV t x i) (dnOf (t.getD i zP))) (fsub one32 (t.getD i zP).2.2)
def Bd : Nat → Nat
  | 0 => 1112014848
  | i + 1 => fmul (Bd i) 1107820544
theorem Bd_ok : ∀ i, i < 5 → (decide (0 < Bd i) && decide (Bd i < 2139095040)) = true := by decide +kernel
theorem Bd_in {i : Nat} (h : i < 5) : 0 < Bd i ∧ Bd i < infW := by
  have := Bd_ok i h
  simp only [Bool.and_eq_true, decide_eq_true_eq] at this
  exact this
theorem dn_ok : ∀ a, a < 16 → ∀ b, b < 16 → decide (upV (wheels.getD b 0) (wheels.getD a 0) ≤ 1107820544) = true := by decide +kernel
theorem dn_le {p : Int × Int × Nat} (h : pairD p) : dnOf p ≤ 1107820544 ∧ fsub one32 p.2.2 ≤ 1065353216 := by
  obtain ⟨⟨a, ha, e1⟩, ⟨b, hb, e2⟩, h3⟩ := h
  have := dn_ok a ha b hb
  unfold dnOf
  rw [e1, e2]
  exact ⟨of_decide_eq_true this, fsub_part (by decide) h3⟩
theorem tor_sw {t : List (Int × Int × Nat)} {x : Nat} (hd : drawn t) (h4 : t.length ≤ 4) (hx : x ≤ 1112014848) : ∀ i, i ≤ t.length → (∃ s, torV t x i = sw s (magV t x i)) ∧ magV t x i ≤ Bd i := by
  intro i
  induction i with
  | zero => intro _; exact ⟨⟨false, rfl⟩, hx⟩
  | succ i ih =>
    intro hi
    obtain ⟨⟨s, hs⟩, hm⟩ := ih (by omega)
    obtain ⟨d1, d2⟩ := dn_le (hd i (by omega))
    obtain ⟨b1, b2⟩ := Bd_in (i := i) (by omega)
    obtain ⟨b3, b4⟩ := Bd_in (i := i + 1) (by omega)
    have hy : fmul (magV t x i) (dnOf (t.getD i zP)) ≤ Bd (i + 1) := fmul_le hm d1 b1 (by decide) b2 (by decide)
    have hz : fmul (fmul (magV t x i) (dnOf (t.getD i zP))) (fsub one32 (t.getD i zP).2.2) ≤ Bd (i + 1) := Nat.le_trans (fmul_part (by omega) d2) hy
    refine ⟨⟨!s, ?_⟩, hz⟩
    rw [torV, magV, hs, fmul_sw s (by omega) (by unfold infW; omega), fmul_sw s (by omega) (by unfold infW; omega)]
    exact fneg_sw s (nn_fmul' (by omega) (by unfold infW; omega))
theorem load_ok {t : List (Int × Int × Nat)} {x i : Nat} (hd : drawn t) (h4 : t.length ≤ 4) (hx : x ≤ 1112014848) (hi : i < t.length) : loadOk (loadV t x i) := by
  obtain ⟨⟨s, hs⟩, hm⟩ := tor_sw hd h4 hx (i + 1) (by omega)
  obtain ⟨b3, b4⟩ := Bd_in (i := i + 1) (by omega)
  have hn : nn (magV t x (i + 1)) := by unfold nn; unfold infW at b4; omega
  unfold loadV
  rw [hs]
  rcases sizeV_sw s hn with e | ⟨_, e⟩
  · rw [e]
    left
    unfold fminc
    rw [nn_flt (by unfold nn; omega) hn]
    split
    · omega
    · rename_i hc; simp at hc; omega
  · rw [e]
    right
    unfold fminc
    rw [show flt 1233125376 2147483648 = false by decide]
    rfl
theorem week_drawn {t : List (Int × Int × Nat)} {x lim : Nat} {l : List Tth} (hd : drawn t) (h4 : t.length ≤ 4) (hx : x ≤ 1112014848) (hl : drawnT l) (hn : l.length = t.length) : drawnT (weekL t l x lim l.length) := by
  intro i hi
  rw [weekL_length] at hi
  have : (weekL t l x lim l.length).getD i zT = wkT t l x lim i := by simp [weekL, List.getD_eq_getElem?_getD, hi]
  rw [this]
  exact tD_worn (tD_ch (hl i hi)) (load_ok hd h4 hx (by omega))
/-- Loads that are drawn. -/
def drawnX (xs : List Nat) : Prop := ∀ i, xs.getD i 0 ≤ 1112014848
theorem yr_drawn {t : List (Int × Int × Nat)} {xs : List Nat} {lim : Nat} {l : List Tth} (hd : drawn t) (h4 : t.length ≤ 4) (hx : drawnX xs) (hl : drawnT l) (hn : l.length = t.length) (n : Nat) : drawnT (yrF t l xs lim n).1 := by
  induction n with
  | zero => exact hl
  | succ n ih => rw [yrF]; exact week_drawn hd h4 (hx n) ih ((yrF_len t l xs lim n).trans hn)
theorem plain_nn {x : Nat} (h : x ≤ 1233125376) : plainV x = true := by
  have hn : nn x := by unfold nn; omega
  unfold plainV fin
  rw [nn_fle hn (by unfold nn; omega)]
  have h1 : flt (sw true 1233125376) (sw false x) = true := by
    rw [flt_sw true false (by unfold nn; omega) hn]
    exact decide_eq_true (by simp; omega)
  have h2 : fle 3380609024 x = true := by
    have e : fle 3380609024 x = (flt (sw true 1233125376) (sw false x) || feq 3380609024 x) := rfl
    rw [e, h1]
    rfl
  rw [h2]
  simpa using h
theorem plain_all {xs : List Nat} (h : drawnX xs) : xs.all plainV = true := by
  rw [List.all_eq_true]
  intro p hp
  obtain ⟨i, hi, rfl⟩ := List.getElem_of_mem hp
  have := h i
  rw [List.getD_eq_getElem?_getD, List.getElem?_eq_getElem hi] at this
  have this' : xs[i] ≤ 1112014848 := this
  exact plain_nn (by omega)
/-! ### changes -/
theorem chT_flag (lim : Nat) (x : Tth) : (chT lim x).2.1 = flt lim (wearT x) ∧ (flt lim (wearT x) = true → (chT lim x).2.2 = flt lim (wearV x.2.1 x.2.2.1 (1 - x.2.2.2))) := by
  unfold chT wearT
  cases h1 : flt lim (wearV x.2.1 x.2.2.1 x.2.2.2)
  · simp
  · cases h2 : flt lim (wearV x.2.1 x.2.2.1 (1 - x.2.2.2)) <;> simp
theorem chgL_step (num : Int) (lim : Nat) (l : List Tth) (n : Nat) : (chgL num lim l (n + 1)).length = (chgL num lim l n).length + (if flt lim (wearT (l.getD n zT)) = true then 1 else 0) := by
  rw [chgL, (chT_flag lim _).1]
  split <;> simp
theorem chgL_mono (num : Int) (lim : Nat) (l : List Tth) {i n : Nat} (h : i ≤ n) : (chgL num lim l i).length ≤ (chgL num lim l n).length := by
  induction n with
  | zero => rw [show i = 0 by omega]; exact Nat.le_refl _
  | succ n ih =>
    rcases Nat.lt_or_ge i (n + 1) with h1 | h1
    · have := ih (by omega)
      have := chgL_step num lim l n
      omega
    · rw [show i = n + 1 by omega]; exact Nat.le_refl _
theorem chgL_get (num : Int) (lim : Nat) (l : List Tth) {i : Nat} (hw : flt lim (wearT (l.getD i zT)) = true) : ∀ n, i < n →
    (chgL num lim l n)[(chgL num lim l i).length]? = some (num, IntKind.i8.wrap (i : Int), flt lim (wearV (l.getD i zT).2.1 (l.getD i zT).2.2.1 (1 - (l.getD i zT).2.2.2))) := by
  intro n
  induction n with
  | zero => intro h; omega
  | succ n ih =>
    intro h
    rcases Nat.lt_or_ge i n with h1 | h1
    · have hlt : (chgL num lim l i).length < (chgL num lim l n).length := by
        have a1 := chgL_step num lim l i
        rw [if_pos hw] at a1
        have := chgL_mono num lim l (i := i + 1) (n := n) (by omega)
        omega
      rw [chgL]
      split
      · rw [List.getElem?_append_left hlt]; exact ih h1
      · exact ih h1
    · obtain rfl : i = n := by omega
      rw [chgL, (chT_flag lim _).1, if_pos hw, List.getElem?_append_right (Nat.le_refl _), Nat.sub_self, (chT_flag lim _).2 hw]
      rfl
theorem chgL_num (num : Int) (lim : Nat) (l : List Tth) (n : Nat) : (chgL num lim l n).length = (chgL 0 lim l n).length := by
  induction n with
  | zero => rfl
  | succ n ih => rw [chgL_step, chgL_step, ih]
theorem yr_grow (t : List (Int × Int × Nat)) (l : List Tth) (xs : List Nat) (lim n : Nat) : ∀ d, ∃ ys, (yrF t l xs lim (n + d)).2 = (yrF t l xs lim n).2 ++ ys := by
  intro d
  induction d with
  | zero => exact ⟨[], by simp⟩
  | succ d ih =>
    obtain ⟨ys, e⟩ := ih
    exact ⟨ys ++ chgL ((n + d : Nat) : Int) lim (yrF t l xs lim (n + d)).1 (yrF t l xs lim (n + d)).1.length, by rw [← Nat.add_assoc, yrF, e, List.append_assoc]⟩
theorem yr_get {t : List (Int × Int × Nat)} {l : List Tth} {xs : List Nat} {lim w N k : Nat} (hw : w < N) (hk : k < (chgL (w : Int) lim (yrF t l xs lim w).1 (yrF t l xs lim w).1.length).length) :
    (yrF t l xs lim N).2[(yrF t l xs lim w).2.length + k]? = (chgL (w : Int) lim (yrF t l xs lim w).1 (yrF t l xs lim w).1.length)[k]? := by
  obtain ⟨ys, e⟩ := yr_grow t l xs lim (w + 1) (N - (w + 1))
  rw [show w + 1 + (N - (w + 1)) = N by omega] at e
  rw [e, yrF, List.append_assoc, List.getElem?_append_right (by omega), show (yrF t l xs lim w).2.length + k - (yrF t l xs lim w).2.length = k by omega, List.getElem?_append_left hk]
/-! ### quiet weeks -/
def itF (t : List (Int × Int × Nat)) (x lim : Nat) (l : List Tth) : Nat → List Tth
  | 0 => l
  | j + 1 => weekL t (itF t x lim l j) x lim (itF t x lim l j).length
theorem itF_shift (t : List (Int × Int × Nat)) (x lim : Nat) (l : List Tth) (j : Nat) : itF t x lim (weekL t l x lim l.length) j = itF t x lim l (j + 1) := by
  induction j with
  | zero => rfl
  | succ j ih => rw [itF, ih]; rfl
theorem qwF_law (t : List (Int × Int × Nat)) (x lim : Nat) : ∀ d n l, ∃ r, r ≤ d ∧ qwF t x lim d n l = ((n + r : Nat) : Int) ∧ (∀ j, j < r → (chgL 0 lim (itF t x lim l j) (itF t x lim l j).length).length = 0) ∧ (r = d ∨ (chgL 0 lim (itF t x lim l r) (itF t x lim l r).length).length ≠ 0) := by
  intro d
  induction d with
  | zero => intro n l; exact ⟨0, Nat.le_refl _, rfl, fun j h => absurd h (Nat.not_lt_zero j), .inl rfl⟩
  | succ d ih =>
    intro n l
    rw [qwF]
    by_cases h : (chgL 0 lim l l.length).length = 0
    · rw [if_pos h]
      obtain ⟨r, h1, h2, h3, h4⟩ := ih (n + 1) (weekL t l x lim l.length)
      refine ⟨r + 1, by omega, by rw [h2]; congr 1; omega, fun j hj => ?_, ?_⟩
      · cases j with
        | zero => exact h
        | succ j => rw [← itF_shift]; exact h3 j (by omega)
      · rcases h4 with h4 | h4
        · exact .inl (by omega)
        · rw [itF_shift] at h4; exact .inr h4
    · rw [if_neg h]
      exact ⟨0, Nat.zero_le _, rfl, fun j hj => absurd hj (Nat.not_lt_zero j), .inr h⟩
theorem yr_it {t : List (Int × Int × Nat)} {x lim : Nat} {l : List Tth} {xs : List Nat} {N : Nat} (hx : ∀ j, j < N → xs.getD j 0 = x) : ∀ j, j ≤ N → (yrF t l xs lim j).1 = itF t x lim l j := by
  intro j
  induction j with
  | zero => intro _; rfl
  | succ j ih => intro h; rw [yrF, itF, ih (by omega), hx j (by omega)]
theorem rep_get (r x : Nat) {j : Nat} (h : j < r) : (List.replicate r x).getD j 0 = x := by
  rw [List.getD_eq_getElem?_getD, List.getElem?_replicate, if_pos h]; rfl
theorem yr_quiet {t : List (Int × Int × Nat)} {x lim : Nat} {l : List Tth} {r N : Nat} (hrN : r ≤ N) (h : ∀ j, j < r → (chgL 0 lim (itF t x lim l j) (itF t x lim l j).length).length = 0) : ∀ j, j ≤ r → (yrF t l (List.replicate N x) lim j).2 = [] := by
  intro j
  induction j with
  | zero => intro _; rfl
  | succ j ih =>
    intro hj
    have e := yr_it (t := t) (x := x) (lim := lim) (l := l) (xs := List.replicate N x) (N := N) (fun j hj => rep_get N x hj) j (by omega)
    rw [yrF, ih (by omega), e, List.nil_append]
    have h1 := h j (by omega)
    rw [← chgL_num (j : Int)] at h1
    exact List.eq_nil_of_length_eq_zero h1
theorem yr_loud {t : List (Int × Int × Nat)} {x lim : Nat} {l : List Tth} {r : Nat} (h : ∀ j, j < r → (chgL 0 lim (itF t x lim l j) (itF t x lim l j).length).length = 0) (hr : (chgL 0 lim (itF t x lim l r) (itF t x lim l r).length).length ≠ 0) : (yrF t l (List.replicate (r + 1) x) lim (r + 1)).2.length ≠ 0 := by
  have e := yr_it (t := t) (x := x) (lim := lim) (l := l) (xs := List.replicate (r + 1) x) (N := r + 1) (fun j hj => rep_get (r + 1) x hj) r (by omega)
  rw [yrF, yr_quiet (N := r + 1) (by omega) h r (Nat.le_refl _), e, List.nil_append, chgL_num]
  exact hr
theorem torq_ok : ∀ v : Nat, v < 200 → decide (fdiv (fi (v : Int)) 1082130432 ≤ 1112014848) = true := by decide +kernel
theorem torq_at {v : Int} {r : Nat} (h0 : 0 ≤ v) (h1 : v < 200) (h : FV r (fop .quo (cn (fi v)) (cn 1082130432))) : r ≤ 1112014848 ∧ FV r (fdiv (fi v) 1082130432) ∧ fdiv (fi v) 1082130432 ≤ 1112014848 := by
  obtain ⟨u, rfl⟩ : ∃ u : Nat, v = u := ⟨v.toNat, by omega⟩
  have := of_decide_eq_true (torq_ok u (by omega))
  rw [cn_of_not (fi_isn _), show cn 1082130432 = 1082130432 by decide] at h
  have h' : FV r (fdiv (fi (u : Int)) 1082130432) := h
  have e := FV_nn h' (by unfold nn; omega)
  exact ⟨by omega, h', this⟩
end Go.Proofs.Ytgdaompppclnlaa
