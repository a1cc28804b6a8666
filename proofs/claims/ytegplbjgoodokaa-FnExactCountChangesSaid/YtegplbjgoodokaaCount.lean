/- The law FnExactCountChanges, over the functions that print.sh has printed: what they come to, in plain Lean. -/
import Derived.Test.YtegplbjgoodokaaPFnExactCountChangesx
import Derived.Test.YtegplbjgoodokaaOpen
namespace Go.Proofs.Ytegplbjgoodokaa.PFnExactCountChanges
open Go.RowKit Go.Proofs.YtegplbjgoodokaaW.PrintWords Go.Proofs.YtegplbjgoodokaaW.PrintLast Go.Proofs.YtegplbjgoodokaaW.PrintMore

def cv (x : S63) : S61 := ⟨x.f0, x.f1, x.f2⟩
theorem wrap_id {x : Int} (h0 : -9223372036854775808 ≤ x) (h1 : x ≤ 9223372036854775807) : wrap64 x = x := by unfold wrap64; omega

theorem rd63 (l : List S63) (i : Nat) (h : i < l.length) : rd_T63 l (i : Int) = l[i] := by
  unfold rd_T63
  rw [Int.toNat_natCast, List.getD_eq_getElem?_getD, List.getElem?_eq_getElem h]; rfl
theorem rd61 (l : List S61) (i : Nat) (h : i < l.length) : rd_T61 l (i : Int) = l[i] := by
  unfold rd_T61
  rw [Int.toNat_natCast, List.getD_eq_getElem?_getD, List.getElem?_eq_getElem h]; rfl

theorem toL (l : List S63) (hm : l.length ≤ 1048576) : ∀ (d i k : Nat) (ys : List S61), i + d = l.length → d < k → ys.length = l.length →
    (∀ j, j < i → ys[j]? = (l.map cv)[j]?) → laws_toChangeS.l0 k l ys (i : Int) = some (l.map cv)
  | 0, i, k, ys, hi, hk, hl, hy => by
    obtain ⟨k, rfl⟩ : ∃ m, k = m + 1 := ⟨k - 1, by omega⟩
    simp only [laws_toChangeS.l0]
    rw [if_neg (by omega)]
    congr 1
    apply List.ext_getElem?
    intro j
    by_cases hj : j < i
    · exact hy j hj
    · rw [List.getElem?_eq_none (by omega), List.getElem?_eq_none (by simp; omega)]
  | d + 1, i, k, ys, hi, hk, hl, hy => by
    obtain ⟨k, rfl⟩ : ∃ m, k = m + 1 := ⟨k - 1, by omega⟩
    have hil : i < l.length := by omega
    simp only [laws_toChangeS.l0]
    rw [if_pos (by omega), if_pos (by omega), rd63 l i hil, laws_toChange.f, Option.bind_some, if_pos (by omega), wrap_id (by omega) (by omega), Int.toNat_natCast]
    have := toL l hm d (i + 1) k (ys.set i ⟨l[i].f0, l[i].f1, l[i].f2⟩) (by omega) (by omega) (by simpa using hl) (fun j hj => by
      rw [List.getElem?_set]
      by_cases hji : i = j
      · subst hji
        rw [if_pos rfl, if_pos (by omega), List.getElem?_map, List.getElem?_eq_getElem hil]; rfl
      · rw [if_neg hji]; exact hy j (by omega))
    exact_mod_cast this
theorem to_f (l : List S63) (hm : l.length ≤ 1048576) (k : Nat) (hk : l.length < k) : laws_toChangeS.f k l = some (l.map cv) := by
  unfold laws_toChangeS.f
  rw [if_pos (by omega), if_pos (by omega)]
  exact toL l hm l.length 0 k _ (by omega) hk (by simp) (fun j hj => absurd hj (by omega))

def news : List S61 → Nat
  | [] => 0
  | x :: xs => news xs + if x.f2 = true then 1 else 0
theorem news_le (l : List S61) : news l ≤ l.length := by
  induction l with
  | nil => simp [news]
  | cons x xs ih => simp only [news, List.length_cons]; split <;> omega
theorem news_drop (l : List S61) (i : Nat) (h : i < l.length) : news (l.drop i) = news (l.drop (i + 1)) + if l[i].f2 = true then 1 else 0 := by
  rw [List.drop_eq_getElem_cons h]; rfl

theorem specL (l : List S61) (hm : l.length ≤ 832) : ∀ (d i k : Nat) (a b : Int), i + d = l.length → d < k → 0 ≤ a → a ≤ i → 0 ≤ b → b ≤ i →
    spec_CountChanges.l0 k l a b (i : Int) = some (a + ((d : Int) - news (l.drop i)), b + news (l.drop i), 0)
  | 0, i, k, a, b, hi, hk, _, _, _, _ => by
    obtain ⟨k, rfl⟩ : ∃ m, k = m + 1 := ⟨k - 1, by omega⟩
    simp only [spec_CountChanges.l0]
    rw [if_neg (by omega), List.drop_eq_nil_of_le (by omega)]
    simp [news]
  | d + 1, i, k, a, b, hi, hk, ha, ha', hb, hb' => by
    obtain ⟨k, rfl⟩ : ∃ m, k = m + 1 := ⟨k - 1, by omega⟩
    have hil : i < l.length := by omega
    simp only [spec_CountChanges.l0]
    rw [if_pos (by omega), if_pos (by omega), rd61 l i hil, news_drop l i hil]
    have e1 : wrap64 ((i : Int) + 1) = ((i + 1 : Nat) : Int) := by rw [wrap_id (by omega) (by omega)]; rfl
    rw [e1]
    have hn := news_le (l.drop (i + 1))
    rw [List.length_drop] at hn
    by_cases hc : l[i].f2 = true
    · rw [if_pos hc, if_pos hc, wrap_id (x := b + 1) (by omega) (by omega), specL l hm d (i + 1) k a (b + 1) (by omega) (by omega) ha (by omega) (by omega) (by omega)]
      congr 2
      · omega
      · congr 1; omega
    · rw [if_neg hc, if_neg hc, wrap_id (x := a + 1) (by omega) (by omega), specL l hm d (i + 1) k (a + 1) b (by omega) (by omega) (by omega) (by omega) hb (by omega)]
      congr 2
      · omega
      
theorem implL (l : List S61) (hm : l.length ≤ 832) : ∀ (d i k : Nat) (a : Int), i + d = l.length → d < k → 0 ≤ a → a ≤ i →
    impl_CountChanges.l0 k l a l (l.length : Int) (i : Int) = some ((l.length : Int) - (a + news (l.drop i)), a + news (l.drop i), 0)
  | 0, i, k, a, hi, hk, _, _ => by
    obtain ⟨k, rfl⟩ : ∃ m, k = m + 1 := ⟨k - 1, by omega⟩
    simp only [impl_CountChanges.l0]
    rw [if_neg (by omega), List.drop_eq_nil_of_le (by omega), wrap_id (by omega) (by omega)]
    simp [news]
  | d + 1, i, k, a, hi, hk, ha, ha' => by
    obtain ⟨k, rfl⟩ : ∃ m, k = m + 1 := ⟨k - 1, by omega⟩
    have hil : i < l.length := by omega
    simp only [impl_CountChanges.l0]
    rw [if_pos (by omega), if_pos (by omega), if_pos (by omega), rd61 l i hil, news_drop l i hil]
    have e1 : wrap64 ((i : Int) + 1) = ((i + 1 : Nat) : Int) := by rw [wrap_id (by omega) (by omega)]; rfl
    rw [e1]
    by_cases hc : l[i].f2 = true
    · rw [if_pos hc, if_pos hc, wrap_id (x := a + 1) (by omega) (by omega), implL l hm d (i + 1) k (a + 1) (by omega) (by omega) (by omega) (by omega)]
      congr 2
      · omega
      · congr 1; omega
    · rw [if_neg hc, if_neg hc, implL l hm d (i + 1) k a (by omega) (by omega) ha (by omega)]
      congr 2

theorem eqL (l : List S61) (hm : l.length ≤ 1048576) : ∀ (d i k : Nat), i + d = l.length → d < k → laws_eqChangeS.l0 k l l (i : Int) = some true
  | 0, i, k, hi, hk => by
    obtain ⟨k, rfl⟩ : ∃ m, k = m + 1 := ⟨k - 1, by omega⟩
    simp only [laws_eqChangeS.l0]
    rw [if_neg (by omega)]
  | d + 1, i, k, hi, hk => by
    obtain ⟨k, rfl⟩ : ∃ m, k = m + 1 := ⟨k - 1, by omega⟩
    simp only [laws_eqChangeS.l0]
    rw [if_pos (by omega), if_pos (by omega), if_pos (by omega)]
    have e1 : wrap64 ((i : Int) + 1) = ((i + 1 : Nat) : Int) := by rw [wrap_id (by omega) (by omega)]; rfl
    rw [e1, laws_eqChange.f]
    simp only [if_true, bne_self_eq_false, Bool.false_eq_true, if_false, Option.bind_some]
    exact eqL l hm d (i + 1) k (by omega) (by omega)
theorem eq_f (l : List S61) (hm : l.length ≤ 1048576) (k : Nat) (hk : l.length < k) : laws_eqChangeS.f k l l = some true := by
  unfold laws_eqChangeS.f
  rw [if_pos rfl]
  exact eqL l hm l.length 0 k (by omega) hk

theorem pure (l : List S63) (hl : l.length ≤ 9223372036854775807) : ∃ k, laws_FnExactCountChanges.f k l = some true := by
  refine ⟨l.length + 2, ?_⟩
  unfold laws_FnExactCountChanges.f laws_szChangeS.f
  rw [wrap_id (by omega) (by omega)]
  by_cases h1 : (1048576 : Int) - l.length < 0
  · rw [if_pos h1, Option.bind_some, if_pos (by omega)]
  · rw [if_neg h1, Option.bind_some, if_neg h1, to_f l (by omega) _ (by omega), Option.bind_some]
    have hml : (l.map cv).length = l.length := List.length_map ..
    have fin : laws_FnExactCountChanges.j0 (l.length + 2) l (l.map cv) false = some true := by
      simp only [laws_FnExactCountChanges.j0, Bool.false_eq_true, if_false]
      rw [to_f l (by omega) _ (by omega), Option.bind_some, eq_f _ (by omega) _ (by omega), Option.bind_some, if_pos rfl]
    by_cases h2 : (l.length : Int) > 832
    · have e1 : spec_CountChanges.f (l.length + 2) (l.map cv) = some (0, 0, 3) := by unfold spec_CountChanges.f; rw [hml, if_pos h2]
      have e2 : impl_CountChanges.f (l.length + 2) (l.map cv) = some (0, 0, 3) := by unfold impl_CountChanges.f; rw [hml, if_pos h2]
      rw [e1, Option.bind_some, Option.bind_some, e2, Option.bind_some]
      simp only [if_true, bne_self_eq_false]
      exact fin
    · have e1 : spec_CountChanges.f (l.length + 2) (l.map cv) = some ((l.length : Int) - news (l.map cv), (news (l.map cv) : Int), 0) := by
        unfold spec_CountChanges.f
        rw [hml, if_neg h2]
        have := specL (l.map cv) (by omega) (l.map cv).length 0 (l.length + 2) 0 0 (by omega) (by omega) (by omega) (by omega) (by omega) (by omega)
        simp only [List.drop_zero, Int.zero_add, hml] at this
        exact this
      have e2 : impl_CountChanges.f (l.length + 2) (l.map cv) = some ((l.length : Int) - news (l.map cv), (news (l.map cv) : Int), 0) := by
        unfold impl_CountChanges.f
        rw [hml, if_neg h2]
        have := implL (l.map cv) (by omega) (l.map cv).length 0 (l.length + 2) 0 (by omega) (by omega) (by omega) (by omega)
        simp only [List.drop_zero, Int.zero_add, hml] at this
        exact this
      rw [e1, Option.bind_some, Option.bind_some, e2, Option.bind_some]
      simp only [if_true, bne_self_eq_false]
      exact fin
end Go.Proofs.Ytegplbjgoodokaa.PFnExactCountChanges
