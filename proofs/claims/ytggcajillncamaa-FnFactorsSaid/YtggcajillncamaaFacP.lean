/- Lists of numbers, each once, in ascending order: made by inserting and made by sorting: plain. -/
import Derived.Test.YtggcajillncamaaSrtP
namespace Go.Proofs.Ytggcajillncamaa
open Ieee
set_option maxRecDepth 100000
def asc (l : List Nat) : Prop := l.Pairwise (· < ·)
def allNn (l : List Nat) : Prop := ∀ v ∈ l, nn v
theorem asc_ext : ∀ {l l' : List Nat}, asc l → asc l' → (∀ v, v ∈ l ↔ v ∈ l') → l = l'
  | [], [], _, _, _ => rfl
  | [], b :: l', _, _, h => by have := (h b).2 List.mem_cons_self; cases this
  | a :: l, [], _, _, h => by have := (h a).1 List.mem_cons_self; cases this
  | a :: l, b :: l', h1, h2, h => by
    obtain ⟨p1, q1⟩ := List.pairwise_cons.1 h1
    obtain ⟨p2, q2⟩ := List.pairwise_cons.1 h2
    have hab : a = b := by
      rcases List.mem_cons.1 ((h a).1 List.mem_cons_self) with e | e
      · exact e
      · rcases List.mem_cons.1 ((h b).2 List.mem_cons_self) with e' | e'
        · exact e'.symm
        · have := p1 b e'
          have := p2 a e
          omega
    subst hab
    rw [asc_ext q1 q2 fun v => ?_]
    constructor
    · intro hv
      rcases List.mem_cons.1 ((h v).1 (List.mem_cons_of_mem _ hv)) with e | e
      · subst e; exact absurd (p1 v hv) (Nat.lt_irrefl _)
      · exact e
    · intro hv
      rcases List.mem_cons.1 ((h v).2 (List.mem_cons_of_mem _ hv)) with e | e
      · subst e; exact absurd (p2 v hv) (Nat.lt_irrefl _)
      · exact e
/-- A number put to its place among ascending ones, once. -/
def insU (v : Nat) : List Nat → List Nat
  | [] => [v]
  | a :: l => if flt a v = true then a :: insU v l else if feq a v = true then a :: l else v :: a :: l
theorem mem_insU {v : Nat} (hv : nn v) : ∀ {l : List Nat}, allNn l → ∀ x, x ∈ insU v l ↔ x = v ∨ x ∈ l
  | [], _, x => by simp [insU]
  | a :: l, hl, x => by
    have ha := hl a List.mem_cons_self
    have ih := mem_insU hv (l := l) (fun y hy => hl y (List.mem_cons_of_mem _ hy)) x
    unfold insU
    rw [nn_flt ha hv, nn_feq ha hv]
    by_cases h1 : a < v
    · simp only [h1, decide_true, if_true, List.mem_cons, ih]
      constructor
      · rintro (h | h | h)
        · exact .inr (.inl h)
        · exact .inl h
        · exact .inr (.inr h)
      · rintro (h | h | h)
        · exact .inr (.inl h)
        · exact .inl h
        · exact .inr (.inr h)
    · by_cases h2 : a = v
      · subst h2
        simp
      · simp [h1, h2]
theorem asc_insU {v : Nat} (hv : nn v) : ∀ {l : List Nat}, allNn l → asc l → asc (insU v l)
  | [], _, _ => by simp [insU, asc]
  | a :: l, hl, h => by
    have ha := hl a List.mem_cons_self
    have hl' : allNn l := fun y hy => hl y (List.mem_cons_of_mem _ hy)
    obtain ⟨p, q⟩ := List.pairwise_cons.1 h
    unfold insU
    rw [nn_flt ha hv, nn_feq ha hv]
    by_cases h1 : a < v
    · simp only [h1, decide_true, if_true]
      refine List.pairwise_cons.2 ⟨fun x hx => ?_, asc_insU hv hl' q⟩
      rcases (mem_insU hv hl' x).1 hx with e | e
      · subst e; exact h1
      · exact p x e
    · by_cases h2 : a = v
      · subst h2
        simp only [Nat.lt_irrefl, decide_false, Bool.false_eq_true, if_false, decide_true, if_true]
        exact h
      · simp only [h1, h2, decide_false, Bool.false_eq_true, if_false]
        refine List.pairwise_cons.2 ⟨fun x hx => ?_, h⟩
        rcases List.mem_cons.1 hx with e | e
        · subst e; omega
        · have := p x e; omega
theorem nn_insU {v : Nat} (hv : nn v) {l : List Nat} (hl : allNn l) : allNn (insU v l) := fun x hx => by
  rcases (mem_insU hv hl x).1 hx with e | e
  · subst e; exact hv
  · exact hl x e
/-- Numbers put in one by one. -/
def insA (l out : List Nat) : List Nat := l.foldl (fun out v => insU v out) out
theorem insA_spec : ∀ (l : List Nat) {out : List Nat}, allNn l → allNn out → asc out → asc (insA l out) ∧ allNn (insA l out) ∧ ∀ x, x ∈ insA l out ↔ x ∈ l ∨ x ∈ out
  | [], out, _, h2, h3 => ⟨h3, h2, fun x => by simp [insA]⟩
  | v :: l, out, h1, h2, h3 => by
    have hv := h1 v List.mem_cons_self
    obtain ⟨a, b, c⟩ := insA_spec l (out := insU v out) (fun y hy => h1 y (List.mem_cons_of_mem _ hy)) (nn_insU hv h2) (asc_insU hv h2 h3)
    refine ⟨a, b, fun x => ?_⟩
    have e : insA (v :: l) out = insA l (insU v out) := rfl
    rw [e, c x, mem_insU hv h2, List.mem_cons]
    constructor
    · rintro (h | h | h)
      · exact .inl (.inr h)
      · exact .inl (.inl h)
      · exact .inr h
    · rintro ((h | h) | h)
      · exact .inr (.inl h)
      · exact .inl h
      · exact .inr (.inr h)
/-- Of equal neighbours the first alone. -/
def cpt : List Nat → List Nat
  | [] => []
  | a :: l => a :: cptF a l
where cptF : Nat → List Nat → List Nat
  | _, [] => []
  | a, b :: l => if feq a b = true then cptF a l else b :: cptF b l
theorem cptF_spec : ∀ (l : List Nat) (a : Nat), nn a → allNn l → (∀ x ∈ l, a ≤ x) → l.Pairwise (· ≤ ·) → asc (a :: cpt.cptF a l) ∧ ∀ x, (x = a ∨ x ∈ cpt.cptF a l) ↔ (x = a ∨ x ∈ l)
  | [], a, _, _, _, _ => ⟨by simp [cpt.cptF, asc], fun x => by simp [cpt.cptF]⟩
  | b :: l, a, ha, hl, h, hp => by
    have hb := hl b List.mem_cons_self
    have hl' : allNn l := fun y hy => hl y (List.mem_cons_of_mem _ hy)
    obtain ⟨p, q⟩ := List.pairwise_cons.1 hp
    have hab := h b List.mem_cons_self
    unfold cpt.cptF
    rw [nn_feq ha hb]
    by_cases e : a = b
    · subst e
      obtain ⟨u, v⟩ := cptF_spec l a ha hl' p q
      simp only [decide_true, if_true]
      refine ⟨u, fun x => ?_⟩
      rw [v x, List.mem_cons]
      constructor
      · rintro (h | h)
        · exact .inl h
        · exact .inr (.inr h)
      · rintro (h | h | h)
        · exact .inl h
        · exact .inl h
        · exact .inr h
    · obtain ⟨u, v⟩ := cptF_spec l b hb hl' p q
      simp only [e, decide_false, Bool.false_eq_true, if_false]
      refine ⟨?_, fun x => ?_⟩
      · refine List.pairwise_cons.2 ⟨fun x hx => ?_, u⟩
        have : x = b ∨ x ∈ l := (v x).1 (List.mem_cons.1 hx)
        rcases this with e' | e'
        · subst e'; omega
        · have := p x e'; omega
      · rw [List.mem_cons, v x, List.mem_cons]
theorem cpt_spec {l : List Nat} (hl : allNn l) (hp : l.Pairwise (· ≤ ·)) : asc (cpt l) ∧ ∀ x, x ∈ cpt l ↔ x ∈ l := by
  cases l with
  | nil => exact ⟨by simp [cpt, asc], fun x => by simp [cpt]⟩
  | cons a l =>
    obtain ⟨p, q⟩ := List.pairwise_cons.1 hp
    obtain ⟨u, v⟩ := cptF_spec l a (hl a List.mem_cons_self) (fun y hy => hl y (List.mem_cons_of_mem _ hy)) p q
    exact ⟨u, fun x => by rw [cpt, List.mem_cons, v x, List.mem_cons]⟩
/-- Sorted and cut to one each, or put in one by one: the same. -/
theorem cpt_insA {l s : List Nat} (hl : allNn l) (hs : s.Perm l) (hp : s.Pairwise (· ≤ ·)) : cpt s = insA l [] := by
  obtain ⟨a, b⟩ := cpt_spec (l := s) (fun x hx => hl x (hs.mem_iff.1 hx)) hp
  obtain ⟨c, _, d⟩ := insA_spec l (out := []) hl (fun _ h => by cases h) List.Pairwise.nil
  refine asc_ext a c fun v => ?_
  rw [b v, d v, hs.mem_iff]
  simp
end Go.Proofs.Ytggcajillncamaa
