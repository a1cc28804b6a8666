/- A region whose order the tape picks, walked once in the order of the text, where an operation may give any of several values (a NaN's bits; what a callee hands back under a description) and may leave any world of a class. Behind the first n operations a forced tail may follow. Conditions: the closed tests on the region's edges. -/
import Derived.Deep.Quiet
import Derived.Deep.Draws
import Derived.StillTail
import Derived.Tactics2
import Derived.KernelRfl
namespace Go.Proofs.Ythdmfmhhnacgfaa

section
variable {P : Program} {ops : Array Oper} {md : Region.Mode} {C : World → Prop} {D : Option Tmp → Value → Prop}

/-- What is asked of what an operation has come to: a value in a world of the class; or a call, which hands back a value as described. -/
def relUpon (P : Program) (C : World → Prop) (D : Option Tmp → Value → Prop) (dst : Option Tmp) (K : Value → Prop) : Result Next → Prop
  | .ok (.value u) w' => C w' ∧ K u
  | .ok .skip w' => C w' ∧ K undef
  | .ok (.enter f args) w' => Calls P f args w' (fun e w'' => ∃ v, e = .returned v ∧ D dst v ∧ C w'') ∧ ∀ v, D dst v → K v
  | _ => False

def relOp (P : Program) (C : World → Prop) (D : Option Tmp → Value → Prop) (o : Oper) (a : Act) (K : Act → Prop) : Prop :=
  ∀ w, C w → relUpon P C D o.dst (fun u => K (a.put o.dst u)) ((execOp a.eval o).run P w)

/-- The walk in the order of the text. -/
def wpRel (P : Program) (ops : Array Oper) (C : World → Prop) (D : Option Tmp → Value → Prop) (Q : Act → Prop) : List Oper → Act → Prop
  | [], a => Q a
  | o :: rest, a => if Region.wanted o (yielded ops a.tmps) then relOp P C D o a (wpRel P ops C D Q rest) else wpRel P ops C D Q rest (a.put o.dst undef)

theorem wpRel_nil {Q : Act → Prop} {a : Act} (h : Q a) : wpRel P ops C D Q [] a := h
theorem relUpon_mono {dst : Option Tmp} {K K' : Value → Prop} (h : ∀ u, K u → K' u) {r : Result Next} (hr : relUpon P C D dst K r) : relUpon P C D dst K' r := by
  cases r with
  | ok n w' =>
    cases n <;> simp only [relUpon] at hr ⊢
    · exact ⟨hr.1, h _ hr.2⟩
    · exact ⟨hr.1, h _ hr.2⟩
    · exact ⟨hr.1, fun v hv => h _ (hr.2 v hv)⟩
  | halt x w' => simp only [relUpon] at hr
theorem wpRel_step {Q : Act → Prop} {a : Act} {o : Oper} {rest : List Oper}
    (h : ∀ K : Act → Prop, (∀ a, wpRel P ops C D Q rest a → K a) → if Region.wanted o (yielded ops a.tmps) then relOp P C D o a K else K (a.put o.dst undef)) : wpRel P ops C D Q (o :: rest) a :=
  h _ (fun _ h => h)
theorem wpRel_plain {Q : Act → Prop} {a : Act} {o : Oper} {rest : List Oper} (hg : o.guard = none)
    (h : ∀ K : Act → Prop, (∀ a, wpRel P ops C D Q rest a → K a) → relOp P C D o a K) : wpRel P ops C D Q (o :: rest) a :=
  wpRel_step fun K hK => by simp only [Region.wanted, hg, if_true]; exact h K hK

def rOp (P : Program) (ops : Array Oper) (C : World → Prop) (D : Option Tmp → Value → Prop) (i : Nat) (K : Act → Prop) (a : Act) : Prop :=
  match ops[i]? with
  | none => K a
  | some o => if Region.wanted o (yielded ops a.tmps) then relOp P C D o a K else K (a.put o.dst undef)

/-- The operation goes through, whatever comes of it. -/
def Safe (P : Program) (ops : Array Oper) (C : World → Prop) (D : Option Tmp → Value → Prop) (o : Oper) (a : Act) : Prop :=
  Region.wanted o (yielded ops a.tmps) = true → ∀ w, C w → relUpon P C D o.dst (fun _ => True) ((execOp a.eval o).run P w)

/-- What may come of it. -/
def Gives (D : Option Tmp → Value → Prop) (dst : Option Tmp) (u : Value) : Result Next → Prop
  | .ok (.value v) _ => u = v
  | .ok .skip _ => u = undef
  | .ok (.enter _ _) _ => D dst u
  | _ => False
def MayGive (P : Program) (ops : Array Oper) (C : World → Prop) (D : Option Tmp → Value → Prop) (o : Oper) (a : Act) (u : Value) : Prop :=
  (Region.wanted o (yielded ops a.tmps) = true ∧ ∃ w, C w ∧ Gives D o.dst u ((execOp a.eval o).run P w)) ∨ (Region.wanted o (yielded ops a.tmps) = false ∧ u = undef)

theorem rOp_iff {i : Nat} {o : Oper} {a : Act} {K : Act → Prop} (hi : ops[i]? = some o) :
    rOp P ops C D i K a ↔ Safe P ops C D o a ∧ ∀ u, MayGive P ops C D o a u → K (a.put o.dst u) := by
  unfold rOp Safe MayGive
  simp only [hi]
  by_cases hw : Region.wanted o (yielded ops a.tmps) = true
  · simp only [hw, if_true, true_and, reduceCtorEq, false_and, or_false, forall_const]
    constructor
    · intro h
      refine ⟨fun w hC => relUpon_mono (fun _ _ => trivial) (h w hC), fun u ⟨w, hC, hg⟩ => ?_⟩
      have h1 := h w hC
      generalize (execOp a.eval o).run P w = r at h1 hg
      cases r with
      | ok n w' =>
        cases n <;> simp only [Gives, relUpon] at h1 hg
        · subst hg; exact h1.2
        · subst hg; exact h1.2
        · exact h1.2 _ hg
      | halt x w' => simp only [Gives] at hg
    · intro ⟨h1, h2⟩ w hC
      have h3 := h1 w hC
      have h4 : ∀ u, Gives D o.dst u ((execOp a.eval o).run P w) → K (a.put o.dst u) := fun u hu => h2 u ⟨w, hC, hu⟩
      generalize (execOp a.eval o).run P w = r at h3 h4
      cases r with
      | ok n w' =>
        cases n <;> simp only [Gives, relUpon] at h3 h4 ⊢
        · exact ⟨h3.1, h4 _ rfl⟩
        · exact ⟨h3.1, h4 _ rfl⟩
        · exact ⟨h3.1, h4⟩
        all_goals exact h3.elim
      | halt x w' => simp only [relUpon] at h3
  · simp only [Bool.not_eq_true] at hw
    simp [hw]

theorem reach_exists {o : Oper} {a : Act} {w0 : World} (hC : C w0) (h : Safe P ops C D o a) : ∃ u, MayGive P ops C D o a u := by
  by_cases hw : Region.wanted o (yielded ops a.tmps) = true
  · have h1 := h hw w0 hC
    cases hr : (execOp a.eval o).run P w0 with
    | ok n w' =>
      rw [hr] at h1
      cases n <;> simp only [relUpon] at h1
      · exact ⟨_, .inl ⟨hw, w0, hC, by rw [hr]; rfl⟩⟩
      · exact ⟨_, .inl ⟨hw, w0, hC, by rw [hr]; rfl⟩⟩
      · obtain ⟨hc, _⟩ := h1
        obtain ⟨e, w'', fr, ⟨v, _, hD, _⟩, _⟩ := hc []
        exact ⟨v, .inl ⟨hw, w0, hC, by rw [hr]; exact hD⟩⟩
    | halt x w' => rw [hr] at h1; simp only [relUpon] at h1
  · exact ⟨undef, .inr ⟨by simpa using hw, rfl⟩⟩

theorem Safe.put {oi oj : Oper} {a : Act} {u : Value} (hsi : ∀ cs b, oi.op ≠ .select cs b) (h3 : ∀ d, oj.dst = some d → d ∉ oi.looksAt ops) :
    Safe P ops C D oi (a.put oj.dst u) ↔ Safe P ops C D oi a := by
  unfold Safe
  rw [execOp_put oi hsi a oj.dst u h3, wanted_put oi a oj.dst u h3]
theorem MayGive.put {oi oj : Oper} {a : Act} {u v : Value} (hsi : ∀ cs b, oi.op ≠ .select cs b) (h3 : ∀ d, oj.dst = some d → d ∉ oi.looksAt ops) :
    MayGive P ops C D oi (a.put oj.dst u) v ↔ MayGive P ops C D oi a v := by
  unfold MayGive
  rw [execOp_put oi hsi a oj.dst u h3, wanted_put oi a oj.dst u h3]

theorem rOp_mono {i : Nat} {a : Act} {K K' : Act → Prop} (h : ∀ a, K a → K' a) (hh : rOp P ops C D i K a) : rOp P ops C D i K' a := by
  cases hi : ops[i]? with
  | none => unfold rOp at *; simp only [hi] at *; exact h _ hh
  | some o => rw [rOp_iff hi] at *; exact ⟨hh.1, fun u hu => h _ (hh.2 u hu)⟩

theorem wpOp_of_rOp {i : Nat} {a : Act} {K : Act → Prop} {K' : Act → World → Prop} {Q' : Exit → Act → World → Prop} {w : World} (hC : C w) (h : ∀ a w', C w' → K a → K' a w') (hh : rOp P ops C D i K a) : wpOp P ops Q' i K' a w := by
  unfold rOp at hh
  unfold wpOp
  split
  · rename_i ho; simp only [ho] at hh; exact h _ _ hC hh
  · rename_i o ho
    simp only [ho] at hh
    split
    · rename_i hw
      simp only [hw, if_true] at hh
      refine .inl ?_
      have h1 := hh w hC
      unfold Oper.wp
      generalize (execOp a.eval o).run P w = r at h1 ⊢
      cases r with
      | ok n w' =>
        cases n <;> simp only [relUpon] at h1 <;> simp only [Oper.upon]
        · exact h _ _ h1.1 h1.2
        · exact h _ _ h1.1 h1.2
        · exact h1.1.mono fun e w'' ⟨v, he, hD, hw''⟩ => by subst he; exact h _ _ hw'' (h1.2 v hD)
      | halt x w' => simp only [relUpon] at h1
    · rename_i hw; simp only [hw] at hh; exact h _ _ hC hh

/-- Whatever order is picked from here on. -/
def wpAnyR (P : Program) (md : Region.Mode) (ops : Array Oper) (C : World → Prop) (D : Option Tmp → Value → Prop) (Q : Act → Prop) : Nat → Array Bool → Act → Prop
  | 0, listed, a => Region.ready md ops listed = [] ∧ Q a
  | fuel + 1, listed, a =>
    (Region.ready md ops listed = [] → Q a) ∧
    ∀ i ∈ Region.ready md ops listed, rOp P ops C D i (wpAnyR P md ops C D Q fuel (listed.setIfInBounds i true)) a

theorem wpAny_of_rel {Q : Act → Prop} {Q' : Exit → Act → World → Prop} (hQ : ∀ a w, C w → Q a → Q' .normal a w) : ∀ (fuel : Nat) (listed : Array Bool) (a : Act) (w : World), C w →
    wpAnyR P md ops C D Q fuel listed a → wpAny P md ops Q' fuel listed a w
  | 0, _, _, _, hw, h => ⟨h.1, hQ _ _ hw h.2⟩
  | fuel + 1, _, _, _, hw, h => ⟨fun h0 => hQ _ _ hw (h.1 h0), fun i hi => wpOp_of_rOp hw (fun a' w' hw' => wpAny_of_rel hQ fuel _ a' w' hw') (h.2 i hi)⟩

theorem wpAnyR_first {Q : Act → Prop} {w0 : World} (hC : C w0) {i : Nat} {oi : Oper} (hi : ops[i]? = some oi) (hsel : ∀ (j : Nat) (o : Oper) cs b, ops[j]? = some o → o.op ≠ .select cs b) :
    ∀ (fuel : Nat) (listed : Array Bool) (a : Act),
      (∀ j oj, ops[j]? = some oj → j ≠ i → listed.getD j true = false → (∀ e ∈ oj.after, Region.binds md e = true → e.on ≠ i) → oi.apart ops oj = true) →
      i ∈ Region.ready md ops listed → Safe P ops C D oi a →
      (∀ u, MayGive P ops C D oi a u → wpAnyR P md ops C D Q fuel (listed.setIfInBounds i true) (a.put oi.dst u)) → wpAnyR P md ops C D Q (fuel + 1) listed a := by
  intro fuel
  induction fuel with
  | zero =>
    intro listed a _ hr hy H
    refine ⟨fun h => (by rw [h] at hr; cases hr), fun j hj => ?_⟩
    by_cases hji : j = i
    · subst hji; exact (rOp_iff hi).2 ⟨hy, H⟩
    · obtain ⟨u, hu⟩ := reach_exists hC hy
      have h1 := ready_mono hj hji
      rw [(H u hu).1] at h1
      cases h1
  | succ fuel ih =>
    intro listed a hfree hr hy H
    refine ⟨fun h => (by rw [h] at hr; cases hr), fun j hj => ?_⟩
    by_cases hji : j = i
    · subst hji; exact (rOp_iff hi).2 ⟨hy, H⟩
    · obtain ⟨hjun, oj, hoj, hall⟩ := mem_ready.1 hj
      have hnot : ∀ e ∈ oj.after, Region.binds md e = true → e.on ≠ i := fun e he hb heq => by
        have h1 := hall e he hb
        have h0 := (mem_ready.1 hr).1
        rw [heq] at h1
        rcases Nat.lt_or_ge i listed.size with h' | h'
        · simp [h'] at h0 h1; rw [h0] at h1; cases h1
        · simp [Array.getElem?_eq_none h'] at h1
      obtain ⟨p1, p2, p3⟩ := Oper.apart_spec (hfree j oj hoj hji hjun hnot)
      have hsi := fun cs b => hsel i oi cs b hi
      have hsj := fun cs b => hsel j oj cs b hoj
      have hfree' : ∀ k ok, ops[k]? = some ok → k ≠ i → (listed.setIfInBounds j true).getD k true = false →
          (∀ e ∈ ok.after, Region.binds md e = true → e.on ≠ i) → oi.apart ops ok = true := fun k ok hk hki hun hno => by
        refine hfree k ok hk hki ?_ hno
        by_cases hjk : j = k
        · subst hjk; exact hjun
        · rw [getD_set_ne true hjk] at hun; exact hun
      have hj2 : ∀ u, MayGive P ops C D oi a u → Safe P ops C D oj a ∧ ∀ v, MayGive P ops C D oj a v → wpAnyR P md ops C D Q fuel ((listed.setIfInBounds i true).setIfInBounds j true) ((a.put oi.dst u).put oj.dst v) := fun u hu => by
        have h1 := (rOp_iff hoj).1 ((H u hu).2 j (ready_mono hj hji))
        refine ⟨(Safe.put hsj p1).1 h1.1, fun v hv => h1.2 v ((MayGive.put hsj p1).2 hv)⟩
      obtain ⟨u0, hu0⟩ := reach_exists hC hy
      refine (rOp_iff hoj).2 ⟨(hj2 u0 hu0).1, fun v hv => ?_⟩
      refine ih (listed.setIfInBounds j true) (a.put oj.dst v) hfree' (ready_mono hr (Ne.symm hji)) ((Safe.put hsi p3).2 hy) fun u hu => ?_
      have h2 := (hj2 u ((MayGive.put hsi p3).1 hu)).2 v hv
      rw [Array.setIfInBounds_comm _ _ hji, ← Act.put_comm a u v p2]
      exact h2

theorem wpAnyR_lex {Q : Act → Prop} {w0 : World} (hC : C w0) (hs : Region.noSelect ops = true) : ∀ (l : List Oper) (k : Nat) (listed : Array Bool) (a : Act), (∀ j, l[j]? = ops[k + j]?) →
    Region.lexFrom md ops l.length k listed = true → wpRel P ops C D Q l a → wpAnyR P md ops C D Q l.length listed a
  | [], _, _, _, _, hB, h => ⟨by simpa [Region.lexFrom] using hB, h⟩
  | o :: l, k, listed, a, hl, hB, h => by
    have h0 : ops[k]? = some o := by simpa using (hl 0).symm
    simp only [List.length_cons, Region.lexFrom, Bool.and_eq_true] at hB
    obtain ⟨⟨hr, hf⟩, hB'⟩ := hB
    have hst : rOp P ops C D k (wpRel P ops C D Q l) a := by unfold rOp; simp only [h0]; exact h
    obtain ⟨hy, hK⟩ := (rOp_iff h0).1 hst
    exact wpAnyR_first hC h0 (Region.noSelect_spec hs) l.length listed a (Region.free_spec h0 hf) (by simpa using hr) hy
      (fun u hu => wpAnyR_lex hC hs l (k + 1) _ _ (fun j => by have := hl (j + 1); simpa [Nat.add_assoc, Nat.add_comm 1 j] using this) hB' (hK u hu))

/-- A region that draws its order, walked once. -/
theorem wp_region_rel {id : Nat} {Q : Exit → Act → World → Prop} {a : Act} {w : World} {l : List Oper} (C : World → Prop) (D : Option Tmp → Value → Prop)
    (hm : P.follows .mixedOrders = true) (hB : Region.lexB .any l.toArray = true) (hC : C { w with drawn := w.drawn + 1 })
    (h : wpRel P l.toArray C D (fun a' => ∀ w', C w' → Q .normal a' w') l a) : (Code.region id l.toArray true).wp P Q a w := by
  simp only [Region.lexB, Bool.and_eq_true] at hB
  refine wp_region_any hm (wpAny_of_rel (C := C) (D := D) (Q := fun a' => ∀ w', C w' → Q .normal a' w') (fun _ w' hw' h => h w' hw') _ _ _ _ hC ?_)
  have := wpAnyR_lex (C := C) (D := D) (md := .any) hC hB.1 l 0 (Array.replicate l.toArray.size false) a (by simp) (by simpa using hB.2) h
  simpa using this

/-! ### The same with a forced tail -/

def wpAnyRL (P : Program) (md : Region.Mode) (ops : Array Oper) (C : World → Prop) (D : Option Tmp → Value → Prop) (n : Nat) (L : Array Bool → Act → Prop) : Nat → Array Bool → Act → Prop
  | 0, listed, a => L listed a
  | f + 1, listed, a =>
    Region.ready md ops listed ≠ [] ∧ ∀ i ∈ Region.ready md ops listed, i < n ∧ rOp P ops C D i (wpAnyRL P md ops C D n L f (listed.setIfInBounds i true)) a

theorem wpAny_of_headR {n g : Nat} {L : Array Bool → Act → Prop} {Q' : Exit → Act → World → Prop} (hL : ∀ listed a w, C w → L listed a → wpAny P md ops Q' g listed a w) :
    ∀ (f : Nat) (listed : Array Bool) (a : Act) (w : World), C w → wpAnyRL P md ops C D n L f listed a → wpAny P md ops Q' (f + g) listed a w
  | 0, listed, a, w, hw, h => by rw [Nat.zero_add]; exact hL _ _ _ hw h
  | f + 1, listed, a, w, hw, h => by
    rw [show f + 1 + g = (f + g) + 1 by omega]
    exact ⟨fun h0 => absurd h0 h.1, fun i hi => wpOp_of_rOp hw (fun a' w' hw' h' => wpAny_of_headR hL f _ a' w' hw' h') (h.2 i hi).2⟩

theorem wpAnyRL_first {w0 : World} (hC : C w0) {n i : Nat} {oi : Oper} {L : Array Bool → Act → Prop} (hi : ops[i]? = some oi) (hsel : ∀ (j : Nat) (o : Oper) cs b, ops[j]? = some o → o.op ≠ .select cs b)
    (hs : Region.sinkB md ops n = true) (hc : Region.chainB md ops n = true) (hn : n < ops.size) (hin : i < n)
    (hdone : ∀ listed a, L listed a → ∀ j ∈ Region.ready md ops listed, n ≤ j) :
    ∀ (f : Nat) (listed : Array Bool) (a : Act), HeadInv md ops n listed →
      (∀ j oj, ops[j]? = some oj → j ≠ i → listed.getD j true = false → (∀ e ∈ oj.after, Region.binds md e = true → e.on ≠ i) → oi.apart ops oj = true) →
      i ∈ Region.ready md ops listed → Safe P ops C D oi a →
      (∀ u, MayGive P ops C D oi a u → wpAnyRL P md ops C D n L f (listed.setIfInBounds i true) (a.put oi.dst u)) → wpAnyRL P md ops C D n L (f + 1) listed a := by
  intro f
  induction f with
  | zero =>
    intro listed a inv _ hr hy H
    have hun := (mem_ready.1 hr).1
    refine ⟨fun h => (by rw [h] at hr; cases hr), fun j hj => ?_⟩
    have hjn : j < n := by
      rcases Nat.lt_or_ge j n with h | h
      · exact h
      · exact absurd hj (tail_waits hs hc hn inv _ i rfl hin hun j h)
    refine ⟨hjn, ?_⟩
    by_cases hji : j = i
    · subst hji; exact (rOp_iff hi).2 ⟨hy, H⟩
    · obtain ⟨u, hu⟩ := reach_exists hC hy
      have := hdone _ _ (H u hu) j (ready_mono hj hji)
      omega
  | succ f ih =>
    intro listed a inv hfree hr hy H
    have hun := (mem_ready.1 hr).1
    refine ⟨fun h => (by rw [h] at hr; cases hr), fun j hj => ?_⟩
    have hjn : j < n := by
      rcases Nat.lt_or_ge j n with h | h
      · exact h
      · exact absurd hj (tail_waits hs hc hn inv _ i rfl hin hun j h)
    refine ⟨hjn, ?_⟩
    by_cases hji : j = i
    · subst hji; exact (rOp_iff hi).2 ⟨hy, H⟩
    · obtain ⟨hjun, oj, hoj, hall⟩ := mem_ready.1 hj
      have hnot : ∀ e ∈ oj.after, Region.binds md e = true → e.on ≠ i := fun e he hb heq => by
        have h1 := hall e he hb
        rw [heq, getD_both hun] at h1
        cases h1
      obtain ⟨p1, p2, p3⟩ := Oper.apart_spec (hfree j oj hoj hji hjun hnot)
      have hsi := fun cs b => hsel i oi cs b hi
      have hsj := fun cs b => hsel j oj cs b hoj
      have hfree' : ∀ k ok, ops[k]? = some ok → k ≠ i → (listed.setIfInBounds j true).getD k true = false →
          (∀ e ∈ ok.after, Region.binds md e = true → e.on ≠ i) → oi.apart ops ok = true := fun k ok hk hki hun hno => by
        refine hfree k ok hk hki ?_ hno
        by_cases hjk : j = k
        · subst hjk; exact hjun
        · rw [getD_set_ne true hjk] at hun; exact hun
      have hj2 : ∀ u, MayGive P ops C D oi a u → Safe P ops C D oj a ∧ ∀ v, MayGive P ops C D oj a v → wpAnyRL P md ops C D n L f ((listed.setIfInBounds i true).setIfInBounds j true) ((a.put oi.dst u).put oj.dst v) := fun u hu => by
        have h1 := (rOp_iff hoj).1 ((H u hu).2 j (ready_mono hj hji)).2
        refine ⟨(Safe.put hsj p1).1 h1.1, fun v hv => h1.2 v ((MayGive.put hsj p1).2 hv)⟩
      obtain ⟨u0, hu0⟩ := reach_exists hC hy
      refine (rOp_iff hoj).2 ⟨(hj2 u0 hu0).1, fun v hv => ?_⟩
      refine ih (listed.setIfInBounds j true) (a.put oj.dst v) (inv.set hj hjn) hfree' (ready_mono hr (Ne.symm hji)) ((Safe.put hsi p3).2 hy) fun u hu => ?_
      have h2 := (hj2 u ((MayGive.put hsi p3).1 hu)).2 v hv
      rw [Array.setIfInBounds_comm _ _ hji, ← Act.put_comm a u v p2]
      exact h2

theorem wpAnyRL_lex {w0 : World} (hC : C w0) {n g : Nat} {Lq : Act → Prop} (hsel : Region.noSelect ops = true) (hs : Region.sinkB md ops n = true) (hc : Region.chainB md ops n = true) (hn : n < ops.size) :
    ∀ (l : List Oper) (k : Nat) (listed : Array Bool) (a : Act), (∀ j, j < l.length → l[j]? = ops[k + j]?) → k + l.length = n → HeadInv md ops n listed →
    Region.lexHead md ops g l.length k listed = true → wpRel P ops C D Lq l a →
    wpAnyRL P md ops C D n (fun listed' a' => Region.seqB md ops g n listed' = true ∧ Lq a') l.length listed a
  | [], k, listed, a, _, hk, _, hB, h => by
    have : k = n := by simpa using hk
    subst this
    exact ⟨by simpa [Region.lexHead] using hB, h⟩
  | o :: l, k, listed, a, hl, hk, inv, hB, h => by
    have h0 : ops[k]? = some o := by simpa using (hl 0 (by simp)).symm
    simp only [List.length_cons, Region.lexHead, Bool.and_eq_true] at hB
    obtain ⟨⟨hr, hf⟩, hB'⟩ := hB
    have hkn : k < n := by simp only [List.length_cons] at hk; omega
    have hr' : k ∈ Region.ready md ops listed := by simpa using hr
    have hst : rOp P ops C D k (wpRel P ops C D Lq l) a := by unfold rOp; simp only [h0]; exact h
    obtain ⟨hy, hK⟩ := (rOp_iff h0).1 hst
    exact wpAnyRL_first hC h0 (Region.noSelect_spec hsel) hs hc hn hkn (fun listed' a' hL => seqB_ready hL.1) l.length listed a inv (Region.free_spec h0 hf) hr' hy
      (fun u hu => wpAnyRL_lex hC hsel hs hc hn l (k + 1) _ _ (fun j hj => by have := hl (j + 1) (by simp; omega); simpa [Nat.add_assoc, Nat.add_comm 1 j] using this) (by simp only [List.length_cons] at hk; omega) (inv.set hr' hkn) hB' (hK u hu))

/-- A region that draws its order, its first n operations walked once, its tail forced. -/
theorem wp_region_rel_tail {id : Nat} {Q : Exit → Act → World → Prop} {a : Act} {w : World} {l : List Oper} (C : World → Prop) (D : Option Tmp → Value → Prop) (n : Nat)
    (hm : P.follows .mixedOrders = true) (hB : Region.lexTailB .any l.toArray n = true) (hC : C { w with drawn := w.drawn + 1 })
    (h : wpRel P l.toArray C D (fun a' => ∀ w', C w' → wpList P l.toArray Q (l.drop n) a' w') (l.take n) a) : (Code.region id l.toArray true).wp P Q a w := by
  simp only [Region.lexTailB, Bool.and_eq_true, decide_eq_true_eq] at hB
  obtain ⟨⟨⟨⟨hsel, hn⟩, hs⟩, hc⟩, hlex⟩ := hB
  have hn' : n < l.length := by simpa using hn
  have htl : (l.take n).length = n := by simp; omega
  have hdl : (l.drop n).length = l.toArray.size - n := by simp
  have inv0 : HeadInv .any l.toArray n (Array.replicate l.toArray.size false) :=
    ⟨by simp, fun j oj _ hl => (by rw [getD_replicate_false] at hl; cases hl), fun t _ ht => getD_in (by simpa using ht) (getD_replicate_false _ _)⟩
  have H := wpAnyRL_lex (C := C) (D := D) (md := .any) (g := l.toArray.size - n) hC hsel hs hc hn (l.take n) 0 _ a (fun j hj => by
    have hj' : j < n := by rw [htl] at hj; exact hj
    simp [hj']) (by simpa using htl) inv0 (by rw [htl]; exact hlex) h
  refine wp_region_any hm ?_
  have := wpAny_of_headR (C := C) (D := D) (Q' := Q) (g := l.toArray.size - n) (fun listed a' w' hw' hL => by
    have := wpAny_of_seq (md := .any) (Q' := Q) (l.drop n) n listed a' w' (fun j => by simp [List.getElem?_drop]) (by rw [hdl]; exact hL.1) (hL.2 w' hw')
    rwa [hdl] at this) _ _ _ _ hC H
  rw [htl, show n + (l.toArray.size - n) = l.toArray.size by omega] at this
  exact this
end
end Go.Proofs.Ythdmfmhhnacgfaa
