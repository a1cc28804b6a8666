/- The answers of a line with their code: both sides; discs that are marked. -/
import Derived.Test.YtiipnbccfbielaaAns2
namespace Go.Proofs.Ytiipnbccfbielaa
open Go.RowKit Ieee
open Go.Proofs.YtiipnbccfbielaaW.PrintWords
set_option maxRecDepth 100000

def amountL (q : Nat) : Bool := fin 0 1233125376 q
def outL (l : List (Nat × Nat)) (q : Nat) : List Nat × List Nat × Int :=
  if lineOk l = true then (if amountL q = true then (swL l (cn q) l.length, twL l (cn q) l.length, 0) else ([], [], 2)) else ([], [], 1)
def AnsA (a : List Nat × List Nat × Int) (w : World) (e : Ending) (w' : World) : Prop :=
  ∃ v1 v2, e = .returned (.tuple #[v1, v2, .int .i64 a.2.2]) ∧ FR w' w.heap.size v1 a.1 ∧ FR w' w.heap.size v2 a.2.1 ∧ NE v1 v2 ∧ Below w.heap.size w w'
theorem lineOk_len {l : List (Nat × Nat)} (h : lineOk l = true) : 2 ≤ l.length ∧ l.length ≤ 10 := by
  unfold lineOk iin at h
  simp at h
  omega
theorem outL_len (l : List (Nat × Nat)) (q : Nat) : (outL l q).1.length ≤ 10 ∧ (outL l q).2.1.length ≤ 10 := by
  unfold outL
  split
  · rename_i h
    have := lineOk_len h
    split
    · exact ⟨by rw [swL_length]; omega, by rw [twL_length]; omega⟩
    · exact ⟨by simp, by simp⟩
  · exact ⟨by simp, by simp⟩
theorem isAmountL_any (a : Nat) (w : World) :
    Calls Try.prog 75 #[.float .f32 a] w fun e w' => e = .returned (.bool (amountL a)) ∧ w = w' := by
  go_enter Try.func75, Try.ntmps75
  go_wp2_with (go_at_call 65; refine (between_any _ _ _ _).mono ?_; rintro e w' ⟨rfl, rfl⟩)
  all_goals (go_ret; exact ⟨rfl, rfl⟩)
theorem l07Fast_any (a : Nat) (w : World) :
    Calls Try.prog 81 #[.float .f32 a] w fun e w' => e = .returned (.bool (amountL a)) ∧ w = w' := by
  go_enter Try.func81, Try.ntmps81
  go_wp2
  all_goals (go_ret; refine ⟨?_, rfl⟩; simp [amountL, fin, *])
def codeL (a b : Bool) : Int := if a = true then (if b = true then 0 else 2) else 1
theorem lineCode_any (A : Option Addr) (c : Nat) (l : List (Nat × Nat)) (f : Bool) (k : Int) (hk : codeL (lineOk l) f = k) (w : World) (hA : Kd.C kD w A l.length l) (hm : l.length ≤ 1048576) :
    Calls Try.prog 74 #[.slice A l.length c, .bool f] w fun e w' => e = .returned (.int .i64 k) ∧ Below w.heap.size w w' := by
  subst hk
  have HA := Lib.hid (fun c => validLine_impl A c l w hA hm)
  clear hA
  generalize lineOk l = g at *
  cases g
  · go_enter Try.func74, Try.ntmps74
    go_wp2_with (go_at_call 18; refine (HA.out _).mono ?_; rintro e w1 ⟨rfl, hb1⟩)
    go_ret
    exact ⟨rfl, hb1⟩
  · cases f
    · go_enter Try.func74, Try.ntmps74
      go_wp2_with (go_at_call 18; refine (HA.out _).mono ?_; rintro e w1 ⟨rfl, hb1⟩)
      go_ret
      exact ⟨rfl, hb1⟩
    · go_enter Try.func74, Try.ntmps74
      go_wp2_with (go_at_call 18; refine (HA.out _).mono ?_; rintro e w1 ⟨rfl, hb1⟩)
      go_ret
      exact ⟨rfl, hb1⟩
theorem l07Asked_any (A : Option Addr) (c : Nat) (l : List (Nat × Nat)) (q : Nat) (k : Int) (hk : codeL (lineOk l) (amountL q) = k) (w : World) (hA : Kd.C kD w A l.length l) (hm : l.length ≤ 1048576) :
    Calls Try.prog 72 #[.slice A l.length c, .float .f32 q] w fun e w' => e = .returned (.int .i64 k) ∧ Below w.heap.size w w' := by
  subst hk
  have HA := Lib.hid (fun c => l07Line_any A c l w hA hm)
  have HF := Lib.hid (l07Fast_any q)
  clear hA
  generalize lineOk l = g at *
  generalize amountL q = f at *
  cases g
  · go_enter Try.func72, Try.ntmps72
    go_wp2_with (go_at_call 63; refine (HA.out _).mono ?_; rintro e w1 ⟨rfl, hb1⟩)
    go_ret
    exact ⟨rfl, hb1⟩
  · cases f
    · go_enter Try.func72, Try.ntmps72
      go_wp2_with (first | (go_at_call 81; refine (HF.out _).mono ?_; rintro e w' ⟨rfl, rfl⟩) | (go_at_call 63; refine (HA.out _).mono ?_; rintro e w1 ⟨rfl, hb1⟩))
      go_ret
      exact ⟨rfl, hb1⟩
    · go_enter Try.func72, Try.ntmps72
      go_wp2_with (first | (go_at_call 81; refine (HF.out _).mono ?_; rintro e w' ⟨rfl, rfl⟩) | (go_at_call 63; refine (HA.out _).mono ?_; rintro e w1 ⟨rfl, hb1⟩))
      go_ret
      exact ⟨rfl, hb1⟩

set_option maxHeartbeats 2000000 in
theorem answerOf_spec (A : Option Addr) (c : Nat) (l : List (Nat × Nat)) (q : Nat) (w : World) (hA : Kd.C kD w A l.length l) (hm : l.length ≤ 1048576) :
    Calls Try.prog 27 #[.slice A l.length c, .float .f32 q] w (AnsA (outL l q) w) := by
  have HA : Hid (Kd.C kD w A l.length l) := Lib.hid hA
  clear hA
  have bad : ∀ k : Int, (k = 1 ∨ k = 2) → codeL (lineOk l) (amountL q) = k → outL l q = ([], [], k) → Calls Try.prog 27 #[.slice A l.length c, .float .f32 q] w (AnsA (outL l q) w) := by
    intro k hk hc ho
    rw [ho]
    have HC := Lib.hid (fun c => l07Asked_any A c l q k hc w HA.out hm)
    clear ho hc
    rcases hk with rfl | rfl
    all_goals
      go_enter Try.func27, Try.ntmps27
      go_wp2_with (go_at_call 72; refine (HC.out _).mono ?_; rintro e w1 ⟨rfl, hb1⟩)
      go_ret3
      have h1 := hb1.size
      exact ⟨_, _, rfl, (FR.empty (w := w1.alloc (.cells #[] 35)) w.heap.size w1.heap.size (heap_alloc_new w1 _) h1).alloc _, FR.empty w.heap.size (w1.heap.size + 1) (by have := heap_alloc_new (w1.alloc (.cells #[] 35)) (.cells #[] 35); simpa using this) (by omega), (fun k hk he => by simp [Value.ownBlock] at hk he; omega), by (repeat (first | with_reducible exact Below.refl _ _ | with_reducible refine bset ?_ (by first | (simp; done) | (simp; omega) | omega) _ | with_reducible refine balloc ?_ _ | with_reducible refine bdrewN ?_ _ | with_reducible refine bdrew ?_ | with_reducible refine bstep ?_ (by assumption)))⟩
  cases hl : lineOk l
  · exact bad 1 (.inl rfl) (by simp [codeL, hl]) (by simp [outL, hl])
  · cases hq : amountL q
    · exact bad 2 (.inr rfl) (by simp [codeL, hl, hq]) (by simp [outL, hl, hq])
    · have e1 : outL l q = (swL l (cn q) l.length, twL l (cn q) l.length, 0) := by simp [outL, hl, hq]
      have HC := Lib.hid (fun c => l07Asked_any A c l q 0 (by simp [codeL, hl, hq]) w HA.out hm)
      have hl2 := lineOk_len hl
      rw [e1]
      clear e1 hl hq bad
      go_enter Try.func27, Try.ntmps27
      go_wp2_with (first | (go_at_call 72; refine (HC.out _).mono ?_; rintro e w1 ⟨rfl, hb1⟩) | (go_at_call 73; refine (answer_spec A c l q _ (Kd.C_below HA.out hb1) (by omega) hm).mono ?_; rintro e w2 ⟨v1, v2, rfl, h1, h2, hn, hb2⟩; have H1 := Lib.hid h1; have H2 := Lib.hid h2; have HN := Lib.hid hn; clear h1 h2 hn))
      go_ret3
      exact ⟨_, _, rfl, H1.out.lower hb1.size, H2.out.lower hb1.size, HN.out, bstep hb1 hb2⟩
set_option maxHeartbeats 2000000 in
theorem answerOf_impl (A : Option Addr) (c : Nat) (l : List (Nat × Nat)) (q : Nat) (w : World) (hA : Kd.C kD w A l.length l) (hm : l.length ≤ 1048576) :
    Calls Try.prog 28 #[.slice A l.length c, .float .f32 q] w (AnsA (outL l q) w) := by
  have HA : Hid (Kd.C kD w A l.length l) := Lib.hid hA
  have HF := Lib.hid (isAmountL_any q)
  clear hA
  have bad : ∀ k : Int, (k = 1 ∨ k = 2) → codeL (lineOk l) (amountL q) = k → outL l q = ([], [], k) → Calls Try.prog 28 #[.slice A l.length c, .float .f32 q] w (AnsA (outL l q) w) := by
    intro k hk hc ho
    rw [ho]
    have HC := Lib.hid (fun c => lineCode_any A c l (amountL q) k hc w HA.out hm)
    clear ho hc
    rcases hk with rfl | rfl
    all_goals
      go_enter Try.func28, Try.ntmps28
      go_wp2_with (first | (go_at_call 75; refine (HF.out _).mono ?_; rintro e w' ⟨rfl, rfl⟩) | (go_at_call 74; refine (HC.out _).mono ?_; rintro e w1 ⟨rfl, hb1⟩))
      go_ret3
      exact ⟨_, _, rfl, FR.nil _ _, FR.nil _ _, NE.nil_left _, hb1⟩
  cases hl : lineOk l
  · exact bad 1 (.inl rfl) (by simp [codeL, hl]) (by simp [outL, hl])
  · cases hq : amountL q
    · exact bad 2 (.inr rfl) (by simp [codeL, hl, hq]) (by simp [outL, hl, hq])
    · have e1 : outL l q = (swL l (cn q) l.length, twL l (cn q) l.length, 0) := by simp [outL, hl, hq]
      have HC := Lib.hid (fun c => lineCode_any A c l (amountL q) 0 (by simp [codeL, hl, hq]) w HA.out hm)
      rw [e1]
      clear e1 hl hq bad
      go_enter Try.func28, Try.ntmps28
      go_wp2_with (first | (go_at_call 75; refine (HF.out _).mono ?_; rintro e w' ⟨rfl, rfl⟩) | (go_at_call 74; refine (HC.out _).mono ?_; rintro e w1 ⟨rfl, hb1⟩) | (go_at_call 76; refine (answers_impl A c l q _ (Kd.C_below HA.out hb1) hm).mono ?_; rintro e w2 ⟨v1, v2, rfl, h1, h2, hn, hb2⟩; have H1 := Lib.hid h1; have H2 := Lib.hid h2; have HN := Lib.hid hn; clear h1 h2 hn))
      go_ret3
      exact ⟨_, _, rfl, H1.out.lower hb1.size, H2.out.lower hb1.size, HN.out, bstep hb1 hb2⟩

set_option maxHeartbeats 2000000 in
theorem markDiscS_any (v : Value) (l : List (Nat × Nat)) (m : Int) (base : Nat) (w : World) (hr : Kd.R kD 84 w base (fun _ => True) v l) (hm : l.length ≤ 1048576) (h0 : 0 ≤ m) (h1 : m ≤ 1000000000) :
    Calls Try.prog 30 #[v, .int .i64 m] w fun e w' => e = .returned (.int .i64 (m + 2 * l.length)) ∧ w.grownBy w' v.ownBlock := by
  have HR := Lib.hid hr
  obtain ⟨A, c, hv, hc, _⟩ := Kd.R_reads hr
  subst hv
  clear hr
  go_enter Try.func30, Try.ntmps30
  go_wp2
  go_loopw [1, 5] (fun q i wr => ∃ k : Nat, ∃ ys : List (Nat × Nat), k ≤ l.length ∧ q = .int .i64 (m + 2 * k) ∧ i = .int .i64 k ∧ Hid (Kd.R kD 84 wr base (fun _ => True) (.slice A l.length c) ys) ∧ Hid (ys.length = l.length) ∧ Hid (w.grownBy wr (Value.slice A l.length c).ownBlock)) (fun _ i _ => l.length - (intOf i).toNat)
  case atStart => exact ⟨0, l, Nat.zero_le _, by simp, rfl, HR, Lib.hid rfl, Lib.hid (World.grownBy.refl _ _)⟩
  case round =>
    obtain ⟨k, ys, hk, rfl, rfl, HR1, HL, HG⟩ := hrel
    clear HR
    by_cases hlt : k < l.length
    · have hpos : 0 < ys.length := by have := HL.out; omega
      obtain ⟨g, cap, hv, hge, hglt, _⟩ := Kd.R_form HR1.out hpos
      obtain ⟨hA, _, hcap⟩ : A = some ⟨g, 0, none⟩ ∧ l.length = ys.length ∧ c = cap := by injection hv with a b c; exact ⟨a, b, c⟩
      subst hA
      clear hv hcap
      obtain ⟨ce, hcl, hM, hcc, hfr⟩ := Kd.R_elem HR1.out (0, 0) (k : Int) (by omega) (by omega)
      obtain ⟨r2, s2, rfl, _, _⟩ := kD_openM hM
      have x0 : wr.cell? ⟨g, k * 2, none⟩ = some (.float .f32 r2) := hcc 0 _ rfl
      have x1 : wr.cell? ⟨g, k * 2 + 1, none⟩ = some (.float .f32 s2) := hcc 1 _ rfl
      have f0 : wr.frozen? ⟨g, k * 2, none⟩ = false := hfr 0
      have f1 : wr.frozen? ⟨g, k * 2 + 1, none⟩ = false := hfr 1
      have HS := Lib.hid (Kd.R_seg HR1.out (k : Int) (by omega) (by omega) (seg := [.float .f32 (fi (m + 2 * k)), .float .f32 (fi (m + 2 * k + 1))]) (j := 0) hcl hcc (show 2 ≤ 2 from Nat.le_refl 2) (x' := (fi (m + 2 * k), fi (m + 2 * k + 1))) (kD_mkM wr _ (fun q => True ∧ q ≠ g) (fi_FV _) (fi_FV _)) (fun _ h => h))
      have hyl : k < ys.length := by have := HL.out; omega
      clear hcl hM hcc hfr
      go_wp2
      go_roundw
      case rel => exact ⟨k + 1, ys.set k (fi (m + 2 * k), fi (m + 2 * k + 1)), by omega, by go_num, by go_num, Lib.hid HS.out.1, Lib.hid (by rw [List.length_set]; exact HL.out), Lib.hid (HG.out.trans HS.out.2)⟩
      case measure => simp [intOf]; omega
    · go_wp2
      go_ret
      have hkl : k = l.length := by omega
      exact ⟨by first | (simp [hkl]; done) | (simp; omega) | omega, HG.out⟩
theorem FR.ne_disc {W : World} {b b' : Nat} {v v3 : Value} {xs : List Nat} {ys : List (Nat × Nat)} (h : FR W b v xs) (h3 : Kd.R kD 84 W b' (fun _ => True) v3 ys) : ∀ k, v.ownBlock = some k → some k ≠ v3.ownBlock := by
  intro k hk he
  obtain ⟨c1, e1⟩ := Kd.R_typed h.out k hk
  obtain ⟨c2, e2⟩ := Kd.R_typed h3 k he.symm
  rw [e1] at e2
  injection e2 with e2
  injection e2 with _ e3
  exact absurd e3 (by decide)
end Go.Proofs.Ytiipnbccfbielaa
