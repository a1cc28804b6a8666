/- The play behind each pair, with its code: both sides. -/
import Derived.Test.YtpkmmelinfcdaaaPlay4
import Derived.OpenShut
namespace Go.Proofs.Ytpkmmelinfcdaaa
open Go.RowKit Ieee
open Go.Proofs.YtpkmmelinfcdaaaW.PrintWords
set_option maxRecDepth 100000

def outPL (t : List (Int × Int × Nat)) (ps : List Nat) : List Nat × Int :=
  if trainOk t = true then (if playsOk t.length ps = true then (aloL t ps t.length, 0) else ([], 2)) else ([], 1)
def PLQ (a : List Nat × Int) (w : World) (e : Ending) (w' : World) : Prop := ∃ v, e = .returned (.tuple #[v, .int .i64 a.2]) ∧ FR w' w.heap.size v a.1 ∧ Below w.heap.size w w'
theorem outPL_len (t : List (Int × Int × Nat)) (ps : List Nat) : (outPL t ps).1.length ≤ 8 := by
  unfold outPL
  split
  · rename_i h
    have := trainOk_len h
    split
    · rw [aloL_length]; omega
    · simp
  · simp
set_option maxHeartbeats 2000000 in
theorem playsAlong_spec (A B : Option Addr) (c c' : Nat) (t : List (Int × Int × Nat)) (ps : List Nat) (w : World) (hA : Kd.C kP w A t.length t) (hn : t.length ≤ 1048576) (hB : Kd.C kf w B ps.length ps) (hm : ps.length ≤ 1048576) :
    Calls Try.prog 18 #[.slice A t.length c, .slice B ps.length c'] w (PLQ (outPL t ps) w) := by
  have bad : ∀ k : Int, (k = 1 ∨ k = 2) → codeP (trainOk t) (playsOk t.length ps) = k → outPL t ps = ([], k) → Calls Try.prog 18 #[.slice A t.length c, .slice B ps.length c'] w (PLQ (outPL t ps) w) := by
    intro k hk hc ho
    rw [ho]
    have HC := Lib.hid (l06Asked_any A B c c' t ps k hc w hA hn hB hm)
    clear ho hc hA hB
    rcases hk with rfl | rfl
    all_goals
      go_enter Try.func18, Try.ntmps18
      go_wp2_with (go_at_call 30; refine (HC.out).mono ?_; rintro e w' ⟨rfl, rfl⟩)
      go_ret2
      exact ⟨_, rfl, FR.empty (w := w.alloc (.cells #[] 25)) w.heap.size w.heap.size (heap_alloc_new w _) (Nat.le_refl _), by (repeat (first | with_reducible exact Below.refl _ _ | with_reducible refine bset ?_ (by first | (simp; done) | (simp; omega) | omega) _ | with_reducible refine balloc ?_ _ | with_reducible refine bdrewN ?_ _ | with_reducible refine bdrew ?_ | with_reducible refine bstep ?_ (by assumption)))⟩
  cases ht : trainOk t
  · exact bad 1 (.inl rfl) (by simp [codeP, ht]) (by simp [outPL, ht])
  · cases hp : playsOk t.length ps
    · exact bad 2 (.inr rfl) (by simp [codeP, ht, hp]) (by simp [outPL, ht, hp])
    · have e1 : outPL t ps = (aloL t ps t.length, 0) := by simp [outPL, ht, hp]
      have HC := Lib.hid (l06Asked_any A B c c' t ps 0 (by simp [codeP, ht, hp]) w hA hn hB hm)
      have HE := Lib.hid (along_spec A B c c' t ps w hA hB (playsOk_len hp) hn)
      rw [e1]
      clear e1 ht hp bad hA hB
      go_enter Try.func18, Try.ntmps18
      go_wp2_with (first | (go_at_call 30; refine (HC.out).mono ?_; rintro e w' ⟨rfl, rfl⟩) | (go_at_call 37; refine (HE.out).mono ?_; rintro e w1 ⟨v, rfl, hr, hb1⟩; have HR := Lib.hid hr; clear hr))
      go_ret2
      exact ⟨v, rfl, HR.out, hb1⟩
set_option maxHeartbeats 2000000 in
theorem playsAlong_impl (A B : Option Addr) (c c' : Nat) (t : List (Int × Int × Nat)) (ps : List Nat) (w : World) (hA : Kd.C kP w A t.length t) (hn : t.length ≤ 1048576) (hB : Kd.C kf w B ps.length ps) (hc : ps.length ≤ c') (hm : ps.length ≤ 1048576) :
    Calls Try.prog 19 #[.slice A t.length c, .slice B ps.length c'] w (PLQ (outPL t ps) w) := by
  have bad : ∀ k : Int, (k = 1 ∨ k = 2) → codeP (trainOk t) (playsOk t.length ps) = k → outPL t ps = ([], k) → Calls Try.prog 19 #[.slice A t.length c, .slice B ps.length c'] w (PLQ (outPL t ps) w) := by
    intro k hk hcd ho
    rw [ho]
    have HC := Lib.hid (playCode1 A B c c' t ps k hcd w hA hn hB hc hm)
    clear ho hcd hA hB
    rcases hk with rfl | rfl
    all_goals
      go_enter Try.func19, Try.ntmps19
      go_wp2_with (go_at_call 33; refine (HC.out).mono ?_; rintro e w1 ⟨rfl, hb1⟩)
      go_ret2
      exact ⟨_, rfl, FR.nil _ _, hb1⟩
  cases ht : trainOk t
  · exact bad 1 (.inl rfl) (by simp [codeP, ht]) (by simp [outPL, ht])
  · cases hp : playsOk t.length ps
    · exact bad 2 (.inr rfl) (by simp [codeP, ht, hp]) (by simp [outPL, ht, hp])
    · have e1 : outPL t ps = (aloL t ps t.length, 0) := by simp [outPL, ht, hp]
      have HC := Lib.hid (playCode1 A B c c' t ps 0 (by simp [codeP, ht, hp]) w hA hn hB hc hm)
      have HE : Hid (∀ w1, Below w.heap.size w w1 → Calls Try.prog 38 #[.slice A t.length c, .slice B ps.length c'] w1 (AloQ t ps w1)) := Lib.hid (fun w1 hb => along_impl A B c c' t ps w1 (Kd.C_below hA hb) (Kd.C_below hB hb) (playsOk_len hp) hn)
      rw [e1]
      clear e1 ht hp bad hA hB
      go_enter Try.func19, Try.ntmps19
      go_wp2_with (first | (go_at_call 33; refine (HC.out).mono ?_; rintro e w1 ⟨rfl, hb1⟩) | (go_at_call 38; refine (HE.out _ hb1).mono ?_; rintro e w2 ⟨v, rfl, hr, hb2⟩; have HR := Lib.hid hr; clear hr))
      go_ret2
      exact ⟨v, rfl, HR.out.lower hb1.size, bstep hb1 hb2⟩
end Go.Proofs.Ytpkmmelinfcdaaa
