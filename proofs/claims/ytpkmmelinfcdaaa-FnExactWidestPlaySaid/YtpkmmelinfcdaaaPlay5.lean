/- The play behind each pair, with its code: both sides. -/
import Derived.Test.YtpkmmelinfcdaaaPlay4
import Derived.OpenShut
namespace Go.Proofs.Ytpkmmelinfcdaaa
open Go.RowKit Ieee
open Go.Proofs.YtpkmmelinfcdaaaW.PrintWords
set_option maxRecDepth 100000

def outPL (t : List (Int × Int × Nat)) (ps : List Nat) : List Nat × Int :=
  if trainOk t = true then (if playsOk t.length ps = true then (aloL t ps t.length, 0) else ([], 2)) else ([], 1)
def PLQ (a : List Nat × Int) (w : World) (e : Ending) (w' : World) : Prop := ∃ v, e = .returned (.tuple #[v, .int .i64 a.2]) ∧ FR w' w.heap.size v a.1 ∧ Below w.heap.size w w'
theorem outPL_len (t : List (Int × Int × Nat)) (ps : List Nat) : (outPL t ps).1.length ≤ 8 := by
  unfold outPL
  split
  · rename_i h
    have := trainOk_len h
    split
    · rw [aloL_length]; omega
    · simp
  · simp
set_option maxHeartbeats 2000000 in
theorem playsAlong_spec (A B : Option Addr) (c c' : Nat) (t : List (Int × Int × Nat)) (ps : List Nat) (w : World) (hA : Kd.C kP w A t.length t) (hn : t.length ≤ 1048576) (hB : Kd.C kf w B ps.length ps) (hm : ps.length ≤ 1048576) :
    Calls Try.prog 18 #[.slice A t.length c, .slice B ps.length c'] w (PLQ (outPL t ps) w) := by
  have bad : ∀ k : Int, (k = 1 ∨ k = 2) → codeP (trainOk t) (playsOk t.length ps) = k → outPL t ps = ([], k) → Calls Try.prog 18 #[.slice A t.length c, .slice B ps.length c'] w (PLQ (outPL t ps) w) := by
    intro k hk hc ho
    rw [ho]
    have HC := Lib.hid (l06Asked_any A B c c' t ps k hc w hA hn hB hm)
    clear ho hc hA hB
    rcases hk with rfl | rfl
    all_goals
      go_enter Try.func18, Try.ntmps18
      go_wp2_with (go_at_call 30; refine (HC.out).mono ?_; rintro e w' ⟨rfl, rfl⟩)
      go_ret2
      exact ⟨_, rfl, FR.empty (w := w.alloc (.cells #[] 25)) w.heap.size w.heap.size (heap_alloc_new w _) (Nat.le_refl _), by (repeat (first | with_reducible exact Below.refl _ _ | with_reducible refine bset ?_ (by first | (simp; done) | (simp; omega) | omega) _ | with_reducible refine balloc ?_ _ | with_reducible refine bdrewN ?_ _ | with_reducible refine bdrew ?_ | with_reducible refine bstep ?_ (by assumption)))⟩
  cases ht : trainOk t
  · exact bad 1 (.inl rfl) (by simp [codeP, ht]) (by simp [outPL, ht])
  · cases hp : playsOk t.length ps
    · exact bad 2 (.inr rfl) (by simp [codeP, ht, hp]) (by simp [outPL, ht, hp])
    · have e1 : outPL t ps = (aloL t ps t.length, 0) := by simp [outPL, ht, hp]
      have HC := Lib.hid (l06Asked_any A B c c' t ps 0 (by simp [codeP, ht, hp]) w hA hn hB hm)
      have HE := Lib.hid (along_spec A B c c' t ps w hA hB (playsOk_len hp) hn)
      rw [e1]
      clear e1 ht hp bad hA hB
      go_enter Try.func18, Try.ntmps18
      go_wp2_with (first | (go_at_call 30; refine (HC.out).mono ?_; rintro e w' ⟨rfl, rfl⟩) | (go_at_call 37; refine (HE.out).mono ?_; rintro e w1 ⟨v, rfl, hr, hb1⟩; have HR := Lib.hid hr; clear hr))
      go_ret2
      exact ⟨v, rfl, HR.out, hb1⟩
set_option maxHeartbeats 2000000 in
theorem playsAlong_impl (A B : Option Addr) (c c' : Nat) (t : List (Int × Int × Nat)) (ps : List Nat) (w : World) (hA : Kd.C kP w A t.length t) (hn : t.length ≤ 1048576) (hB : Kd.C kf w B ps.length ps) (hc : ps.length ≤ c') (hm : ps.length ≤ 1048576) :
    Calls Try.prog 19 #[.slice A t.length c, .slice B ps.length c'] w (PLQ (outPL t ps) w) := by
  have bad : ∀ k : Int, (k = 1 ∨ k = 2) → codeP (trainOk t) (playsOk t.length ps) = k → outPL t ps = ([], k) → Calls Try.prog 19 #[.slice A t.length c, .slice B ps.length c'] w (PLQ (outPL t ps) w) := by
    intro k hk hcd ho
    rw [ho]
    have HC := Lib.hid (playCode1 A B c c' t ps k hcd w hA hn hB hc hm)
    clear ho hcd hA hB
    rcases hk with rfl | rfl
    all_goals
      go_enter Try.func19, Try.ntmps19
      go_wp2_with (go_at_call 33; refine (HC.out).mono ?_; rintro e w1 ⟨rfl, hb1⟩)
      go_ret2
      exact ⟨_, rfl, FR.nil _ _, hb1⟩
  cases ht : trainOk t
  · exact bad 1 (.inl rfl) (by simp [codeP, ht]) (by simp [outPL, ht])
  · cases hp : playsOk t.length ps
    · exact bad 2 (.inr rfl) (by simp [codeP, ht, hp]) (by simp [outPL, ht, hp])
    · have e1 : outPL t ps = (aloL t ps t.length, 0) := by simp [outPL, ht, hp]
      have HC := Lib.hid (playCode1 A B c c' t ps 0 (by simp [codeP, ht, hp]) w hA hn hB hc hm)
      have HE : Hid (∀ w1, Below w.heap.size w w1 → Calls Try.prog 38 #[.slice A t.length c, .slice B ps.length c'] w1 (AloQ t ps w1)) := Lib.hid (fun w1 hb => along_impl A B c c' t ps w1 (Kd.C_below hA hb) (Kd.C_below hB hb) (playsOk_len hp) hn)
      rw [e1]
      clear e1 ht hp bad hA hB
      go_enter Try.func19, Try.ntmps19
      go_wp2_with (first | (go_at_call 33; refine (HC.out).mono ?_; rintro e w1 ⟨rfl, hb1⟩) | (go_at_call 38; refine (HE.out _ hb1).mono ?_; rintro e w2 ⟨v, rfl, hr, hb2⟩; have HR := Lib.hid hr; clear hr))
      go_ret2
      exact ⟨v, rfl, HR.out.lower hb1.size, bstep hb1 hb2⟩

set_option maxHeartbeats 4000000 in
theorem markTrain_any (v : Value) (l : List (Int × Int × Nat)) (m : Int) (base : Nat) (w : World) (hr : Kd.R kP 56 w base (fun _ => True) v l) (hm : l.length ≤ 1048576) (h0 : 0 ≤ m) (h1 : m ≤ 1000000000) :
    Calls Try.prog 20 #[v, .int .i64 m] w fun e w' => e = .returned (.int .i64 (m + 3 * l.length)) ∧ w.grownBy w' v.ownBlock := by
  have HR := Lib.hid hr
  obtain ⟨A, c, hv, hc, _⟩ := Kd.R_reads hr
  subst hv
  clear hr
  go_enter Try.func20, Try.ntmps20
  go_wp2
  go_loopw [1, 5] (fun q i wr => ∃ k : Nat, ∃ ys : List (Int × Int × Nat), k ≤ l.length ∧ q = .int .i64 (m + 3 * k) ∧ i = .int .i64 k ∧ Hid (Kd.R kP 56 wr base (fun _ => True) (.slice A l.length c) ys) ∧ Hid (ys.length = l.length) ∧ Hid (w.grownBy wr (Value.slice A l.length c).ownBlock)) (fun _ i _ => l.length - (intOf i).toNat)
  case atStart => exact ⟨0, l, Nat.zero_le _, by simp, rfl, HR, Lib.hid rfl, Lib.hid (World.grownBy.refl _ _)⟩
  case round =>
    obtain ⟨k, ys, hk, rfl, rfl, HR1, HL, HG⟩ := hrel
    clear HR
    by_cases hlt : k < l.length
    · have hpos : 0 < ys.length := by have := HL.out; omega
      obtain ⟨g, cap, hv, hge, hglt, _⟩ := Kd.R_form HR1.out hpos
      obtain ⟨hA, _, hcap⟩ : A = some ⟨g, 0, none⟩ ∧ l.length = ys.length ∧ c = cap := by injection hv with a b c; exact ⟨a, b, c⟩
      subst hA
      clear hv hcap
      obtain ⟨ce, hcl, hM, hcc, hfr⟩ := Kd.R_elem HR1.out zP (k : Int) (by omega) (by omega)
      obtain ⟨r2, rfl, _, _⟩ := kP_openM hM
      have x0 : wr.cell? ⟨g, k * 3, none⟩ = some (.int .i16 (ys.getD (k : Int).toNat zP).1) := hcc 0 _ rfl
      have x1 : wr.cell? ⟨g, k * 3 + 1, none⟩ = some (.int .i16 (ys.getD (k : Int).toNat zP).2.1) := hcc 1 _ rfl
      have x2 : wr.cell? ⟨g, k * 3 + 2, none⟩ = some (.float .f32 r2) := hcc 2 _ rfl
      have f0 : wr.frozen? ⟨g, k * 3, none⟩ = false := hfr 0
      have f1 : wr.frozen? ⟨g, k * 3 + 1, none⟩ = false := hfr 1
      have f2 : wr.frozen? ⟨g, k * 3 + 2, none⟩ = false := hfr 2
      have hyl : k < ys.length := by have := HL.out; omega
      have HS : Hid (∀ a b : Int, ∀ x : Nat, i16B a b → FV x x → Kd.R kP 56 (((wr.setCell ⟨g, k * 3, none⟩ (.int .i16 a)).setCell ⟨g, k * 3 + 1, none⟩ (.int .i16 b)).setCell ⟨g, k * 3 + 2, none⟩ (.float .f32 x)) base (fun _ => True) (.slice (some ⟨g, 0, none⟩) l.length c) (ys.set k (a, b, x)) ∧ wr.grownBy (((wr.setCell ⟨g, k * 3, none⟩ (.int .i16 a)).setCell ⟨g, k * 3 + 1, none⟩ (.int .i16 b)).setCell ⟨g, k * 3 + 2, none⟩ (.float .f32 x)) (some g)) := Lib.hid (fun a b x hab hx => Kd.R_seg HR1.out (k : Int) (by omega) (by omega) (seg := [.int .i16 a, .int .i16 b, .float .f32 x]) (j := 0) hcl hcc (show 3 ≤ 3 from Nat.le_refl 3) (x' := (a, b, x)) (kP_mkM wr _ (fun q => True ∧ q ≠ g) hab hx) (fun _ h => h))
      clear hcl hM hcc hfr
      go_wp2
      go_roundw
      case rel =>
        have b16 : ∀ e : Int, -32768 ≤ IntKind.i16.wrap e ∧ IntKind.i16.wrap e ≤ 32767 := fun e => by have := wf_wrap .i16 e; simpa [Lit.wf, IntKind.min, IntKind.max, IntKind.signed, IntKind.bits] using this
        have HS2 := HS.out (IntKind.i16.wrap (m + 3 * k)) (IntKind.i16.wrap (m + 3 * k + 1)) (fi (m + 3 * k + 1 + 1)) ⟨(b16 _).1, (b16 _).2, (b16 _).1, (b16 _).2⟩ (fi_FV _)
        exact ⟨k + 1, _, by omega, by go_num, by go_num, Lib.hid HS2.1, Lib.hid (by rw [List.length_set]; exact HL.out), Lib.hid (HG.out.trans HS2.2)⟩
      case measure => simp [intOf]; omega
    · go_wp2
      go_ret
      have hkl : k = l.length := by omega
      exact ⟨by first | (simp [hkl]; done) | (simp; omega) | omega, HG.out⟩
end Go.Proofs.Ytpkmmelinfcdaaa
