/- The answers of a line with their code: both sides; discs that are marked. -/
import Derived.Test.YthdmfmhhnacgfaaAns2
namespace Go.Proofs.Ythdmfmhhnacgfaa
open Go.RowKit Ieee
open Go.Proofs.YthdmfmhhnacgfaaW.PrintWords
set_option maxRecDepth 100000

def amountL (q : Nat) : Bool := fin 0 1233125376 q
def outL (l : List (Nat × Nat)) (q : Nat) : List Nat × List Nat × Int :=
  if lineOk l = true then (if amountL q = true then (swL l (cn q) l.length, twL l (cn q) l.length, 0) else ([], [], 2)) else ([], [], 1)
def AnsA (a : List Nat × List Nat × Int) (w : World) (e : Ending) (w' : World) : Prop :=
  ∃ v1 v2, e = .returned (.tuple #[v1, v2, .int .i64 a.2.2]) ∧ FR w' w.heap.size v1 a.1 ∧ FR w' w.heap.size v2 a.2.1 ∧ NE v1 v2 ∧ Below w.heap.size w w'
theorem lineOk_len {l : List (Nat × Nat)} (h : lineOk l = true) : 2 ≤ l.length ∧ l.length ≤ 10 := by
  unfold lineOk iin at h
  simp at h
  omega
theorem outL_len (l : List (Nat × Nat)) (q : Nat) : (outL l q).1.length ≤ 10 ∧ (outL l q).2.1.length ≤ 10 := by
  unfold outL
  split
  · rename_i h
    have := lineOk_len h
    split
    · exact ⟨by rw [swL_length]; omega, by rw [twL_length]; omega⟩
    · exact ⟨by simp, by simp⟩
  · exact ⟨by simp, by simp⟩
theorem isAmountL_any (a : Nat) (w : World) :
    Calls Try.prog 19 #[.float .f32 a] w fun e w' => e = .returned (.bool (amountL a)) ∧ w = w' := by
  go_enter Try.func19, Try.ntmps19
  go_wp2_with (go_at_call 28; refine (between_any _ _ _ _).mono ?_; rintro e w' ⟨rfl, rfl⟩)
  all_goals (go_ret; exact ⟨rfl, rfl⟩)
theorem l07Fast_any (a : Nat) (w : World) :
    Calls Try.prog 34 #[.float .f32 a] w fun e w' => e = .returned (.bool (amountL a)) ∧ w = w' := by
  go_enter Try.func34, Try.ntmps34
  go_wp2
  all_goals (go_ret; refine ⟨?_, rfl⟩; simp [amountL, fin, *])
def codeL (a b : Bool) : Int := if a = true then (if b = true then 0 else 2) else 1
theorem lineCode_any (A : Option Addr) (c : Nat) (l : List (Nat × Nat)) (f : Bool) (k : Int) (hk : codeL (lineOk l) f = k) (w : World) (hA : Kd.C kD w A l.length l) (hm : l.length ≤ 1048576) :
    Calls Try.prog 18 #[.slice A l.length c, .bool f] w fun e w' => e = .returned (.int .i64 k) ∧ Below w.heap.size w w' := by
  subst hk
  have HA := Lib.hid (fun c => validLine_impl A c l w hA hm)
  clear hA
  generalize lineOk l = g at *
  cases g
  · go_enter Try.func18, Try.ntmps18
    go_wp2_with (go_at_call 12; refine (HA.out _).mono ?_; rintro e w1 ⟨rfl, hb1⟩)
    go_ret
    exact ⟨rfl, hb1⟩
  · cases f
    · go_enter Try.func18, Try.ntmps18
      go_wp2_with (go_at_call 12; refine (HA.out _).mono ?_; rintro e w1 ⟨rfl, hb1⟩)
      go_ret
      exact ⟨rfl, hb1⟩
    · go_enter Try.func18, Try.ntmps18
      go_wp2_with (go_at_call 12; refine (HA.out _).mono ?_; rintro e w1 ⟨rfl, hb1⟩)
      go_ret
      exact ⟨rfl, hb1⟩
theorem l07Asked_any (A : Option Addr) (c : Nat) (l : List (Nat × Nat)) (q : Nat) (k : Int) (hk : codeL (lineOk l) (amountL q) = k) (w : World) (hA : Kd.C kD w A l.length l) (hm : l.length ≤ 1048576) :
    Calls Try.prog 21 #[.slice A l.length c, .float .f32 q] w fun e w' => e = .returned (.int .i64 k) ∧ Below w.heap.size w w' := by
  subst hk
  have HA := Lib.hid (fun c => l07Line_any A c l w hA hm)
  have HF := Lib.hid (l07Fast_any q)
  clear hA
  generalize lineOk l = g at *
  generalize amountL q = f at *
  cases g
  · go_enter Try.func21, Try.ntmps21
    go_wp2_with (go_at_call 33; refine (HA.out _).mono ?_; rintro e w1 ⟨rfl, hb1⟩)
    go_ret
    exact ⟨rfl, hb1⟩
  · cases f
    · go_enter Try.func21, Try.ntmps21
      go_wp2_with (first | (go_at_call 34; refine (HF.out _).mono ?_; rintro e w' ⟨rfl, rfl⟩) | (go_at_call 33; refine (HA.out _).mono ?_; rintro e w1 ⟨rfl, hb1⟩))
      go_ret
      exact ⟨rfl, hb1⟩
    · go_enter Try.func21, Try.ntmps21
      go_wp2_with (first | (go_at_call 34; refine (HF.out _).mono ?_; rintro e w' ⟨rfl, rfl⟩) | (go_at_call 33; refine (HA.out _).mono ?_; rintro e w1 ⟨rfl, hb1⟩))
      go_ret
      exact ⟨rfl, hb1⟩

set_option maxHeartbeats 2000000 in
theorem answerOf_spec (A : Option Addr) (c : Nat) (l : List (Nat × Nat)) (q : Nat) (w : World) (hA : Kd.C kD w A l.length l) (hm : l.length ≤ 1048576) :
    Calls Try.prog 8 #[.slice A l.length c, .float .f32 q] w (AnsA (outL l q) w) := by
  have HA : Hid (Kd.C kD w A l.length l) := Lib.hid hA
  clear hA
  have bad : ∀ k : Int, (k = 1 ∨ k = 2) → codeL (lineOk l) (amountL q) = k → outL l q = ([], [], k) → Calls Try.prog 8 #[.slice A l.length c, .float .f32 q] w (AnsA (outL l q) w) := by
    intro k hk hc ho
    rw [ho]
    have HC := Lib.hid (fun c => l07Asked_any A c l q k hc w HA.out hm)
    clear ho hc
    rcases hk with rfl | rfl
    all_goals
      go_enter Try.func8, Try.ntmps8
      go_wp2_with (go_at_call 21; refine (HC.out _).mono ?_; rintro e w1 ⟨rfl, hb1⟩)
      go_ret3
      have h1 := hb1.size
      exact ⟨_, _, rfl, (FR.empty (w := w1.alloc (.cells #[] 26)) w.heap.size w1.heap.size (heap_alloc_new w1 _) h1).alloc _, FR.empty w.heap.size (w1.heap.size + 1) (by have := heap_alloc_new (w1.alloc (.cells #[] 26)) (.cells #[] 26); simpa using this) (by omega), (fun k hk he => by simp [Value.ownBlock] at hk he; omega), by (repeat (first | with_reducible exact Below.refl _ _ | with_reducible refine bset ?_ (by first | (simp; done) | (simp; omega) | omega) _ | with_reducible refine balloc ?_ _ | with_reducible refine bdrewN ?_ _ | with_reducible refine bdrew ?_ | with_reducible refine bstep ?_ (by assumption)))⟩
  cases hl : lineOk l
  · exact bad 1 (.inl rfl) (by simp [codeL, hl]) (by simp [outL, hl])
  · cases hq : amountL q
    · exact bad 2 (.inr rfl) (by simp [codeL, hl, hq]) (by simp [outL, hl, hq])
    · have e1 : outL l q = (swL l (cn q) l.length, twL l (cn q) l.length, 0) := by simp [outL, hl, hq]
      have HC := Lib.hid (fun c => l07Asked_any A c l q 0 (by simp [codeL, hl, hq]) w HA.out hm)
      have hl2 := lineOk_len hl
      rw [e1]
      clear e1 hl hq bad
      go_enter Try.func8, Try.ntmps8
      go_wp2_with (first | (go_at_call 21; refine (HC.out _).mono ?_; rintro e w1 ⟨rfl, hb1⟩) | (go_at_call 22; refine (answer_spec A c l q _ (Kd.C_below HA.out hb1) (by omega) hm).mono ?_; rintro e w2 ⟨v1, v2, rfl, h1, h2, hn, hb2⟩; have H1 := Lib.hid h1; have H2 := Lib.hid h2; have HN := Lib.hid hn; clear h1 h2 hn))
      go_ret3
      exact ⟨_, _, rfl, H1.out.lower hb1.size, H2.out.lower hb1.size, HN.out, bstep hb1 hb2⟩
set_option maxHeartbeats 2000000 in
theorem answerOf_impl (A : Option Addr) (c : Nat) (l : List (Nat × Nat)) (q : Nat) (w : World) (hA : Kd.C kD w A l.length l) (hm : l.length ≤ 1048576) :
    Calls Try.prog 7 #[.slice A l.length c, .float .f32 q] w (AnsA (outL l q) w) := by
  have HA : Hid (Kd.C kD w A l.length l) := Lib.hid hA
  have HF := Lib.hid (isAmountL_any q)
  clear hA
  have bad : ∀ k : Int, (k = 1 ∨ k = 2) → codeL (lineOk l) (amountL q) = k → outL l q = ([], [], k) → Calls Try.prog 7 #[.slice A l.length c, .float .f32 q] w (AnsA (outL l q) w) := by
    intro k hk hc ho
    rw [ho]
    have HC := Lib.hid (fun c => lineCode_any A c l (amountL q) k hc w HA.out hm)
    clear ho hc
    rcases hk with rfl | rfl
    all_goals
      go_enter Try.func7, Try.ntmps7
      go_wp2_with (first | (go_at_call 19; refine (HF.out _).mono ?_; rintro e w' ⟨rfl, rfl⟩) | (go_at_call 18; refine (HC.out _).mono ?_; rintro e w1 ⟨rfl, hb1⟩))
      go_ret3
      exact ⟨_, _, rfl, FR.nil _ _, FR.nil _ _, NE.nil_left _, hb1⟩
  cases hl : lineOk l
  · exact bad 1 (.inl rfl) (by simp [codeL, hl]) (by simp [outL, hl])
  · cases hq : amountL q
    · exact bad 2 (.inr rfl) (by simp [codeL, hl, hq]) (by simp [outL, hl, hq])
    · have e1 : outL l q = (swL l (cn q) l.length, twL l (cn q) l.length, 0) := by simp [outL, hl, hq]
      have HC := Lib.hid (fun c => lineCode_any A c l (amountL q) 0 (by simp [codeL, hl, hq]) w HA.out hm)
      rw [e1]
      clear e1 hl hq bad
      go_enter Try.func7, Try.ntmps7
      go_wp2_with (first | (go_at_call 19; refine (HF.out _).mono ?_; rintro e w' ⟨rfl, rfl⟩) | (go_at_call 18; refine (HC.out _).mono ?_; rintro e w1 ⟨rfl, hb1⟩) | (go_at_call 20; refine (answers_impl A c l q _ (Kd.C_below HA.out hb1) hm).mono ?_; rintro e w2 ⟨v1, v2, rfl, h1, h2, hn, hb2⟩; have H1 := Lib.hid h1; have H2 := Lib.hid h2; have HN := Lib.hid hn; clear h1 h2 hn))
      go_ret3
      exact ⟨_, _, rfl, H1.out.lower hb1.size, H2.out.lower hb1.size, HN.out, bstep hb1 hb2⟩

theorem FR.ne_disc {W : World} {b b' : Nat} {v v3 : Value} {xs : List Nat} {ys : List (Nat × Nat)} (h : FR W b v xs) (h3 : Kd.R kD 48 W b' (fun _ => True) v3 ys) : ∀ k, v.ownBlock = some k → some k ≠ v3.ownBlock := by
  intro k hk he
  obtain ⟨c1, e1⟩ := Kd.R_typed h.out k hk
  obtain ⟨c2, e2⟩ := Kd.R_typed h3 k he.symm
  rw [e1] at e2
  injection e2 with e2
  injection e2 with _ e3
  exact absurd e3 (by decide)
end Go.Proofs.Ythdmfmhhnacgfaa
