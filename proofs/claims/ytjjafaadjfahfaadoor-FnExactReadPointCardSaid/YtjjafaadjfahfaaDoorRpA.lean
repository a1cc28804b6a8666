/- A point read from a text: both sides, and the law. -/
import Derived.Test.YtjjafaadjfahfaaDoorRtA
import Derived.Test.YtjjafaadjfahfaaDoorSplA
import Derived.Test.YtjjafaadjfahfaaDoorRdA
import Derived.Test.YtjjafaadjfahfaaDoorCvC
import Derived.Test.YtjjafaadjfahfaaDoorPlace
import Derived.Deep.RegionHeld3
namespace Go.Proofs.YtjjafaadjfahfaaDoor
open Go.RowKit Ieee
open Go.Proofs.YtjjafaadjfahfaaDoorW.PrintWords
set_option maxRecDepth 100000
theorem cn_0 : cn 0 = 0 := by decide
attribute [local irreducible] wpRel hexL cn
theorem l01Split_row (s : ByteArray) (c : UInt8) (hs : s.size ≤ 1048576) (xs : List (List UInt8)) (n : Nat) (hx : splC c s.data.toList = xs) (hn : xs.length = n) (w : World) :
    Calls Tryd.prog 7 #[.string s, .int .u8 (c.toNat : Int)] w fun e w' => ∃ A k, e = .returned (.slice A n k) ∧ Kd.C kS w' A n xs ∧ Below w.heap.size w w' := by
  refine (l01Split_any s c hs w).mono ?_
  rintro e w' ⟨v, rfl, hR, hb⟩
  subst hx
  subst hn
  obtain ⟨A, k, hv, _, hC⟩ := hR.reads
  exact ⟨A, k, by rw [hv], hC, hb⟩
theorem split_row (c : UInt8) (s : ByteArray) (m : Int) (hs : s.size ≤ 1048576) (xs : List (List UInt8)) (n : Nat) (hx : splC c s.data.toList = xs) (hn : xs.length = n) (w : World) (hm : w.cell? ⟨1, 0, none⟩ = some (.int .i64 m)) :
    Calls Tryd.prog 10 #[.string s, .string ⟨#[c]⟩] w fun e w' => e = .returned (.slice (some ⟨w.heap.size, 0, none⟩) n n) ∧ Kd.C kS w' (some ⟨w.heap.size, 0, none⟩) n xs ∧ Below w.heap.size w w' := by
  subst hx
  subst hn
  exact split_any c s m w (by omega) hm
theorem data_size (l : List UInt8) : (⟨l.toArray⟩ : ByteArray).size = l.length := by show l.toArray.size = _; simp
theorem splC_lens (c : UInt8) : ∀ l : List UInt8, ∀ x ∈ splC c l, x.length ≤ l.length := by
  intro l
  induction l with
  | nil => intro x hx; simp [splC] at hx; subst hx; simp
  | cons b l ih =>
    intro x hx
    obtain ⟨h, t, e⟩ := splC_cons c l
    by_cases hb : b = c
    · rw [splC, if_pos hb] at hx
      rcases List.mem_cons.1 hx with rfl | hx
      · simp
      · have := ih x hx; simp; omega
    · rw [splC, if_neg hb, e] at hx
      rcases List.mem_cons.1 hx with rfl | hx
      · have := ih h (by rw [e]; exact List.mem_cons_self)
        simp [List.headD]; omega
      · have := ih x (by rw [e]; exact List.mem_cons_of_mem _ hx)
        simp; omega
theorem row2 {w : World} {A : Option Addr} {a b : List UInt8} (h : Kd.C kS w A 2 [a, b]) :
    ∃ g off, A = some ⟨g, off, none⟩ ∧ g < w.heap.size ∧ w.cell? ⟨g, off, none⟩ = some (.string ⟨a.toArray⟩) ∧ w.cell? ⟨g, off + 1, none⟩ = some (.string ⟨b.toArray⟩) := by
  obtain ⟨g, off, e, hb, h0⟩ := at_kS h 0 (by decide)
  subst e
  refine ⟨g, off, rfl, hb, h0, ?_⟩
  obtain ⟨g', off', e, _, h1⟩ := at_kS h 1 (by decide)
  injection e with e; injection e with e1 e2; subst e1 e2; exact h1
theorem rowF2 {w : World} {A : Option Addr} {x y : Nat} (h : Kd.C kf w A 2 [x, y]) :
    ∃ g off a b, A = some ⟨g, off, none⟩ ∧ g < w.heap.size ∧ w.cell? ⟨g, off, none⟩ = some (.float .f32 a) ∧ w.cell? ⟨g, off + 1, none⟩ = some (.float .f32 b) ∧ FV a x ∧ FV b y := by
  obtain ⟨g, off, a, e, hb, h0, f0⟩ := at_kf h 0 (by decide)
  obtain ⟨g', off', b, e', _, h1, f1⟩ := at_kf h 1 (by decide)
  subst e
  injection e' with e'; injection e' with e1 e2; subst e1 e2
  exact ⟨g, off, a, b, rfl, hb, h0, h1, f0, f1⟩
/-- What comes of reading a point. -/
def RpQ (X Y : Nat) (k : Int) (w : World) (e : Ending) (w' : World) : Prop :=
  (∃ x y, e = .returned (.tuple #[.complex .f32 x y, .int .i64 k]) ∧ cn x = X ∧ cn y = Y) ∧ Below w.heap.size w w'
theorem RpQ.no {w w' : World} (h : Below w.heap.size w w') : RpQ 0 0 5 w (.returned (.tuple #[.complex .f32 0 0, .int .i64 5])) w' := ⟨⟨0, 0, rfl, cn_0, cn_0⟩, h⟩
set_option maxHeartbeats 600000 in
theorem readPoint_spec_len (s : ByteArray) (hs : s.size ≤ 1048576) (xs : List (List UInt8)) (hx : splC 32 s.data.toList = xs) (h4 : xs.length ≠ 2) (w : World) :
    Calls Tryd.prog 4 #[.string s] w (RpQ 0 0 5 w) := by
  obtain ⟨n, hn⟩ : ∃ n, xs.length = n := ⟨_, rfl⟩
  have x1 : ((n : Int) != 2) = true := by simp; omega
  have HSP := Lib.hid (fun w => l01Split_row s 32 hs xs n hx hn w)
  clear hx hn h4 hs
  go_enter Tryd.func4, Tryd.ntmps4
  go_wp2_with (go_at_call 7; refine (HSP.out _).mono ?_; rintro e w1 ⟨A, k, rfl, hC, hb1⟩; have HC := Lib.hid hC; clear hC; have hc1 := bc hb1; have hf1 := bf hb1; have hs1 := hb1.size; (try simp at hs1); (try have hz10 : w.heap.size < w1.heap.size := by omega); (try have hz11 : w.heap.size + 1 < w1.heap.size := by omega); (try have hz12 : w.heap.size + 1 + 1 < w1.heap.size := by omega); (try have hz13 : w.heap.size + 1 + 1 + 1 < w1.heap.size := by omega))
  go_ret2
  refine RpQ.no ?_
  (repeat (first | with_reducible exact Below.refl _ _ | with_reducible refine bset ?_ (by first | (simp; done) | (simp; omega) | omega) _ | with_reducible refine balloc ?_ _ | with_reducible refine bdrewN ?_ _ | with_reducible refine bdrew ?_ | with_reducible refine bstep ?_ (by assumption)))
set_option maxHeartbeats 600000 in
theorem readPoint_spec_no (s : ByteArray) (hs : s.size ≤ 1048576) (a b : List UInt8) (hx : splC 32 s.data.toList = [a, b]) (ha : a.length ≤ 1048577) (hb : b.length ≤ 1048577) (h0 : (rdOk a && rdOk b) = false) (w : World) :
    Calls Tryd.prog 4 #[.string s] w (RpQ 0 0 5 w) := by
  have HSP := Lib.hid (fun w => l01Split_row s 32 hs _ 2 hx rfl w)
  have R0 := l01Read_any ⟨a.toArray⟩ (by rw [data_size]; exact ha)
  have R1 := l01Read_any ⟨b.toArray⟩ (by rw [data_size]; exact hb)
  rw [show (⟨a.toArray⟩ : ByteArray).data.toList = a from rfl] at R0
  rw [show (⟨b.toArray⟩ : ByteArray).data.toList = b from rfl] at R1
  have key : ∀ p q : Bool, (∀ w, Calls Tryd.prog 8 #[.string ⟨a.toArray⟩] w (RdQ p (rdN a 0) w)) → (∀ w, Calls Tryd.prog 8 #[.string ⟨b.toArray⟩] w (RdQ q (rdN b 0) w)) → (p && q) = false → Calls Tryd.prog 4 #[.string s] w (RpQ 0 0 5 w) := by
    intro p q r0 r1 hpq
    have H0 := Lib.hid r0
    have H1 := Lib.hid r1
    clear hx hs ha hb h0 R0 R1 r0 r1
    go_enter Tryd.func4, Tryd.ntmps4
    cases p <;> cases q <;> first | (exfalso; revert hpq; decide) | clear hpq
    all_goals go_wp2_with fail
    all_goals (go_at_call 7; refine (HSP.out _).mono ?_; rintro e w1 ⟨A, k, rfl, hC, hb1⟩; obtain ⟨g, off, rfl, hg, c0, c1⟩ := row2 hC; clear hC; have hc1 := bc hb1; have hf1 := bf hb1; have hs1 := hb1.size; (try simp at hs1); (try have hz10 : w.heap.size < w1.heap.size := by omega); (try have hz11 : w.heap.size + 1 < w1.heap.size := by omega); (try have hz12 : w.heap.size + 1 + 1 < w1.heap.size := by omega); (try have hz13 : w.heap.size + 1 + 1 + 1 < w1.heap.size := by omega))
    all_goals go_wp2_with fail
    all_goals (go_at_call 8; refine (H0.out _).mono ?_; rintro e w2 ⟨⟨r, rfl, _, _⟩, rfl⟩)
    all_goals go_wp2_with fail
    all_goals (go_at_call 8; refine (H1.out _).mono ?_; rintro e w2 ⟨⟨r', rfl, _, _⟩, rfl⟩)
    all_goals go_wp2
    all_goals (go_ret2; refine RpQ.no ?_)
    all_goals (repeat (first | with_reducible exact Below.refl _ _ | with_reducible refine bset ?_ (by first | (simp; done) | (simp; omega) | omega) _ | with_reducible refine balloc ?_ _ | with_reducible refine bdrewN ?_ _ | with_reducible refine bdrew ?_ | with_reducible refine bstep ?_ (by assumption)))
  exact key _ _ R0 R1 h0
set_option maxHeartbeats 600000 in
theorem readPoint_spec_ok (s : ByteArray) (hs : s.size ≤ 1048576) (a b : List UInt8) (hx : splC 32 s.data.toList = [a, b]) (ha : a.length ≤ 1048577) (hb : b.length ≤ 1048577) (ka : rdOk a = true) (kb : rdOk b = true) (u v : Nat) (hu : rdN a 0 = u) (hv : rdN b 0 = v) (w : World) :
    Calls Tryd.prog 4 #[.string s] w (RpQ (cn u) (cn v) 0 w) := by
  have HSP := Lib.hid (fun w => l01Split_row s 32 hs _ 2 hx rfl w)
  have R0 := Lib.hid (l01Read_ok ⟨a.toArray⟩ (by rw [data_size]; exact ha) ka)
  have R1 := Lib.hid (l01Read_ok ⟨b.toArray⟩ (by rw [data_size]; exact hb) kb)
  rw [show (⟨a.toArray⟩ : ByteArray).data.toList = a from rfl, hu] at R0
  rw [show (⟨b.toArray⟩ : ByteArray).data.toList = b from rfl, hv] at R1
  clear hx hs ha hb ka kb hu hv
  go_enter Tryd.func4, Tryd.ntmps4
  go_wp2_with fail
  (go_at_call 7; refine (HSP.out _).mono ?_; rintro e w1 ⟨A, k, rfl, hC, hb1⟩; obtain ⟨g, off, rfl, hg, c0, c1⟩ := row2 hC; clear hC; have hc1 := bc hb1; have hf1 := bf hb1; have hs1 := hb1.size; (try simp at hs1); (try have hz10 : w.heap.size < w1.heap.size := by omega); (try have hz11 : w.heap.size + 1 < w1.heap.size := by omega); (try have hz12 : w.heap.size + 1 + 1 < w1.heap.size := by omega); (try have hz13 : w.heap.size + 1 + 1 + 1 < w1.heap.size := by omega))
  go_wp2_with fail
  (go_at_call 8; refine (R0.out _).mono ?_; rintro e w2 ⟨rfl, rfl⟩)
  go_wp2_with fail
  (go_at_call 8; refine (R1.out _).mono ?_; rintro e w2 ⟨rfl, rfl⟩)
  go_wp2
  go_ret2
  refine ⟨⟨_, _, rfl, rfl, rfl⟩, ?_⟩
  (repeat (first | with_reducible exact Below.refl _ _ | with_reducible refine bset ?_ (by first | (simp; done) | (simp; omega) | omega) _ | with_reducible refine balloc ?_ _ | with_reducible refine bdrewN ?_ _ | with_reducible refine bdrew ?_ | with_reducible refine bstep ?_ (by assumption)))
theorem nosX (xs : List (List UInt8)) (n : Nat) (hn : xs.length = n) (hl : n ≤ 1048577) (hB : ∀ x ∈ xs, x.length ≤ 1048577) (A : Option Addr) (k : Nat) (w : World) (hA : Kd.C kS w A n xs) : Calls Tryd.prog 9 #[.slice A n k] w (NosQ xs w) :=
  numbersOf_any A k n xs w hn hA hl hB
set_option maxHeartbeats 600000 in
theorem readPoint_impl_no (s : ByteArray) (m : Int) (hs : s.size ≤ 1048576) (xs : List (List UInt8)) (n : Nat) (hn : xs.length = n) (hl : n ≤ 1048577) (hx : splC 32 s.data.toList = xs) (hB : ∀ x ∈ xs, x.length ≤ 1048577) (h0 : xs.all rdOk = false) (w : World) (hm : w.cell? ⟨1, 0, none⟩ = some (.int .i64 m)) :
    Calls Tryd.prog 5 #[.string s] w (RpQ 0 0 5 w) := by
  have HSP := Lib.hid (split_row 32 s m hs xs n hx hn w hm)
  have HN := Lib.hid (nosX xs n hn hl hB)
  have H0 := Lib.hid h0
  clear hx hs hm hB h0 hn hl
  go_enter Tryd.func5, Tryd.ntmps5
  go_wp2_with (first | (go_at_call 10; refine (HSP.out).mono ?_; rintro e w1 ⟨rfl, hC, hb1⟩; have HC := Lib.hid hC; clear hC; have hc1 := bc hb1; have hf1 := bf hb1; have hs1 := hb1.size; (try simp at hs1); (try have hz10 : w.heap.size < w1.heap.size := by omega); (try have hz11 : w.heap.size + 1 < w1.heap.size := by omega); (try have hz12 : w.heap.size + 1 + 1 < w1.heap.size := by omega); (try have hz13 : w.heap.size + 1 + 1 + 1 < w1.heap.size := by omega)) | (go_at_call 9; refine (HN.out _ _ _ HC.out).mono ?_; rintro e w2 ⟨⟨v, rfl, _⟩, hb2⟩; rw [H0.out]; have hc2 := bc hb2; have hf2 := bf hb2; have hs2 := hb2.size; (try simp at hs2); (try have hz20 : w.heap.size < w2.heap.size := by omega); (try have hz21 : w.heap.size + 1 < w2.heap.size := by omega); (try have hz22 : w.heap.size + 1 + 1 < w2.heap.size := by omega); (try have hz23 : w.heap.size + 1 + 1 + 1 < w2.heap.size := by omega)))
  go_ret2
  refine RpQ.no ?_
  (repeat (first | with_reducible exact Below.refl _ _ | with_reducible refine bset ?_ (by first | (simp; done) | (simp; omega) | omega) _ | with_reducible refine balloc ?_ _ | with_reducible refine bdrewN ?_ _ | with_reducible refine bdrew ?_ | with_reducible refine bstep ?_ (by assumption)))
set_option maxHeartbeats 600000 in
theorem readPoint_impl_len (s : ByteArray) (m : Int) (hs : s.size ≤ 1048576) (xs : List (List UInt8)) (n : Nat) (hn : xs.length = n) (hl : n ≤ 1048577) (hx : splC 32 s.data.toList = xs) (hB : ∀ x ∈ xs, x.length ≤ 1048577) (h0 : xs.all rdOk = true) (h2 : n ≠ 2) (w : World) (hm : w.cell? ⟨1, 0, none⟩ = some (.int .i64 m)) :
    Calls Tryd.prog 5 #[.string s] w (RpQ 0 0 5 w) := by
  have HSP := Lib.hid (split_row 32 s m hs xs n hx hn w hm)
  have HN := Lib.hid (nosX xs n hn hl hB)
  have H0 := Lib.hid h0
  have HL := Lib.hid hn
  have x1 : ((n : Int) != 2) = true := by simp; omega
  clear hx hs hm hB h0 hn hl h2
  go_enter Tryd.func5, Tryd.ntmps5
  go_wp2_with (first | (go_at_call 10; refine (HSP.out).mono ?_; rintro e w1 ⟨rfl, hC, hb1⟩; have HC := Lib.hid hC; clear hC; have hc1 := bc hb1; have hf1 := bf hb1; have hs1 := hb1.size; (try simp at hs1); (try have hz10 : w.heap.size < w1.heap.size := by omega); (try have hz11 : w.heap.size + 1 < w1.heap.size := by omega); (try have hz12 : w.heap.size + 1 + 1 < w1.heap.size := by omega); (try have hz13 : w.heap.size + 1 + 1 + 1 < w1.heap.size := by omega)) | (go_at_call 9; refine (HN.out _ _ _ HC.out).mono ?_; rintro e w2 ⟨⟨v, rfl, hF⟩, hb2⟩; obtain ⟨A, k, hv, _, hK⟩ := (hF H0.out).reads; (have hv' : v = .slice A n k := by rw [hv]; simp [HL.out]); subst hv'; rw [H0.out]; clear hF hv hK; have hc2 := bc hb2; have hf2 := bf hb2; have hs2 := hb2.size; (try simp at hs2); (try have hz20 : w.heap.size < w2.heap.size := by omega); (try have hz21 : w.heap.size + 1 < w2.heap.size := by omega); (try have hz22 : w.heap.size + 1 + 1 < w2.heap.size := by omega); (try have hz23 : w.heap.size + 1 + 1 + 1 < w2.heap.size := by omega)))
  go_ret2
  refine RpQ.no ?_
  (repeat (first | with_reducible exact Below.refl _ _ | with_reducible refine bset ?_ (by first | (simp; done) | (simp; omega) | omega) _ | with_reducible refine balloc ?_ _ | with_reducible refine bdrewN ?_ _ | with_reducible refine bdrew ?_ | with_reducible refine bstep ?_ (by assumption)))
set_option maxHeartbeats 600000 in
theorem readPoint_impl_ok (s : ByteArray) (m : Int) (hs : s.size ≤ 1048576) (a b : List UInt8) (hx : splC 32 s.data.toList = [a, b]) (hB : ∀ x ∈ [a, b], x.length ≤ 1048577) (h0 : [a, b].all rdOk = true) (u v : Nat) (hu : rdN a 0 = u) (hv : rdN b 0 = v) (w : World) (hm : w.cell? ⟨1, 0, none⟩ = some (.int .i64 m)) :
    Calls Tryd.prog 5 #[.string s] w (RpQ u v 0 w) := by
  have HSP := Lib.hid (split_row 32 s m hs _ 2 hx rfl w hm)
  have HN := Lib.hid (nosX [a, b] 2 rfl (by omega) hB)
  have H0 := Lib.hid h0
  have HU := Lib.hid (And.intro hu hv)
  clear hx hs hm hB h0 hu hv
  go_enter Tryd.func5, Tryd.ntmps5
  go_wp2_with (first | (go_at_call 10; refine (HSP.out).mono ?_; rintro e w1 ⟨rfl, hC, hb1⟩; have HC := Lib.hid hC; clear hC; have hc1 := bc hb1; have hf1 := bf hb1; have hs1 := hb1.size; (try simp at hs1); (try have hz10 : w.heap.size < w1.heap.size := by omega); (try have hz11 : w.heap.size + 1 < w1.heap.size := by omega); (try have hz12 : w.heap.size + 1 + 1 < w1.heap.size := by omega); (try have hz13 : w.heap.size + 1 + 1 + 1 < w1.heap.size := by omega)) | (go_at_call 9; refine (HN.out _ _ _ HC.out).mono ?_; rintro e w2 ⟨⟨z, rfl, hF⟩, hb2⟩; obtain ⟨A, k, hz, _, hK⟩ := (hF H0.out).reads; obtain ⟨g, off, p, q, rfl, hg, f0, f1, F0, F1⟩ := rowF2 hK; (have hz' : z = .slice (some ⟨g, off, none⟩) 2 k := hz); subst hz'; rw [H0.out]; have HF := Lib.hid (And.intro F0 F1); clear hF hz hK F0 F1; have hc2 := bc hb2; have hf2 := bf hb2; have hs2 := hb2.size; (try simp at hs2); (try have hz20 : w.heap.size < w2.heap.size := by omega); (try have hz21 : w.heap.size + 1 < w2.heap.size := by omega); (try have hz22 : w.heap.size + 1 + 1 < w2.heap.size := by omega); (try have hz23 : w.heap.size + 1 + 1 + 1 < w2.heap.size := by omega)))
  go_region_held3 (fun w' => w'.cell? ⟨g, off, none⟩ = some (.float .f32 p) ∧ w'.cell? ⟨g, off + 1, none⟩ = some (.float .f32 q)) (go_keep) (fail)
  all_goals go_wp2
  all_goals (go_ret2; refine ⟨⟨p, q, rfl, HF.out.1.1.trans HU.out.1, HF.out.2.1.trans HU.out.2⟩, ?_⟩)
  all_goals (repeat (first | with_reducible exact Below.refl _ _ | with_reducible refine bset ?_ (by first | (simp; done) | (simp; omega) | omega) _ | with_reducible refine balloc ?_ _ | with_reducible refine bdrewN ?_ _ | with_reducible refine bdrew ?_ | with_reducible refine bstep ?_ (by assumption)))
theorem readPoint_both (s : ByteArray) (m : Int) (hs : s.size ≤ 1048576) : ∃ (X Y : Nat) (k : Int),
    (∀ w, Calls Tryd.prog 4 #[.string s] w (RpQ X Y k w)) ∧
    (∀ w : World, w.cell? ⟨1, 0, none⟩ = some (.int .i64 m) → Calls Tryd.prog 5 #[.string s] w (RpQ X Y k w)) := by
  obtain ⟨xs, hx⟩ : ∃ xs, splC 32 s.data.toList = xs := ⟨_, rfl⟩
  have hln : s.data.toList.length = s.size := rfl
  have hB : ∀ x ∈ xs, x.length ≤ 1048577 := fun x h => by
    have := splC_lens 32 s.data.toList x (by rw [hx]; exact h)
    omega
  have hl : xs.length ≤ 1048577 := by
    have := splC_len 32 s.data.toList
    rw [hx] at this
    omega
  cases h0 : xs.all rdOk
  · refine ⟨0, 0, 5, fun w => ?_, fun w hm => readPoint_impl_no s m hs xs _ rfl hl hx hB h0 w hm⟩
    by_cases h2 : xs.length = 2
    · match xs, h2, hx, hB, h0 with
      | [a, b], _, hx, hB, h0 =>
        exact readPoint_spec_no s hs a b hx (hB a (by simp)) (hB b (by simp)) (by simpa using h0) w
    · exact readPoint_spec_len s hs xs hx h2 w
  · by_cases h2 : xs.length = 2
    · match xs, h2, hx, hB, h0 with
      | [a, b], _, hx, hB, h0 =>
        have hab : rdOk a = true ∧ rdOk b = true := by simpa using h0
        have cnr : ∀ l : List UInt8, rdOk l = true → cn (rdN l 0) = rdN l 0 := fun l hl => by
          unfold rdOk at hl
          simp only [Bool.and_eq_true, decide_eq_true_eq] at hl
          exact hl.2
        refine ⟨rdN a 0, rdN b 0, 0, fun w => ?_, fun w hm => readPoint_impl_ok s m hs a b hx hB h0 _ _ rfl rfl w hm⟩
        have := readPoint_spec_ok s hs a b hx (hB a (by simp)) (hB b (by simp)) hab.1 hab.2 _ _ rfl rfl w
        rw [cnr a hab.1, cnr b hab.2] at this
        exact this
    · exact ⟨0, 0, 5, fun w => readPoint_spec_len s hs xs hx h2 w, fun w hm => readPoint_impl_len s m hs xs _ rfl hl hx hB h0 h2 w hm⟩
theorem wideC {a b r t X : Nat} (ha : cn a = X) (hb : cn b = X) (hr : FV6 r (widen (cn a))) (ht : FV6 t (widen (cn b))) : cn6 r = cn6 t := by
  rw [hr.1, ht.1, ha, hb]
set_option maxHeartbeats 1000000 in
theorem law_readPoint (s : ByteArray) (ws : s.size ≤ 9223372036854775807) (m : Int) (w : World) (hm : w.cell? ⟨1, 0, none⟩ = some (.int .i64 m)) :
    Calls Tryd.prog 3 #[.string s] w fun e w' => e = .returned (.bool true) ∧ Below w.heap.size w w' := by
  by_cases hs : s.size ≤ 1048576
  · obtain ⟨X, Y, k, h1, h2⟩ := readPoint_both s m hs
    have H1 := Lib.hid h1
    have H2 := Lib.hid h2
    have HM := Lib.hid hm
    have x1 : (s.size : Int) ≤ 1048576 := by omega
    have hg := World.block_lt_of_cell? w _ hm
    clear h1 h2 hm ws hs
    go_enter Tryd.func3, Tryd.ntmps3
    go_wp2_with (first
      | (go_at_call 4; refine (H1.out _).mono ?_; rintro e w1 ⟨⟨x, y, rfl, e1, e2⟩, hb1⟩; have HE := Lib.hid (And.intro e1 e2); clear e1 e2; have hc1 := bc hb1; have hf1 := bf hb1; have hs1 := hb1.size; (try simp at hs1); (try have hz10 : w.heap.size < w1.heap.size := by omega); (try have hz11 : w.heap.size + 1 < w1.heap.size := by omega); (try have hz12 : w.heap.size + 1 + 1 < w1.heap.size := by omega); (try have hz13 : w.heap.size + 1 + 1 + 1 < w1.heap.size := by omega))
      | (go_at_call 5; refine (H2.out _ ((bc hb1 _ 0 hg).trans HM.out)).mono ?_; rintro e w2 ⟨⟨x', y', rfl, e1, e2⟩, hb2⟩; have HE2 := Lib.hid (And.intro e1 e2); clear e1 e2; have hc2 := bc hb2; have hf2 := bf hb2; have hs2 := hb2.size; (try simp at hs2); (try have hz20 : w.heap.size < w2.heap.size := by omega); (try have hz21 : w.heap.size + 1 < w2.heap.size := by omega); (try have hz22 : w.heap.size + 1 + 1 < w2.heap.size := by omega); (try have hz23 : w.heap.size + 1 + 1 + 1 < w2.heap.size := by omega))
      | (refine wpList_convC (o := ⟨some 21, _, _, _, _, _⟩) rfl rfl (by kernel_rfl) Tryd.underlying26 rfl ?_; intro r21 i21 n21 h21 g21) | (refine wpList_convC (o := ⟨some 23, _, _, _, _, _⟩) rfl rfl (by kernel_rfl) Tryd.underlying26 rfl ?_; intro r23 i23 n23 h23 g23)
      | (go_at_call 6; refine (sameComplex_any _ _ _ _ h21.2 g21.2 (wideC HE2.out.1 HE.out.1 h21 h23) (wideC HE2.out.2 HE.out.2 g21 g23) _).mono ?_; rintro e w' ⟨rfl, rfl⟩))
    all_goals (go_ret; refine ⟨by simp, ?_⟩)
    all_goals (repeat (first | with_reducible exact Below.refl _ _ | with_reducible refine bset ?_ (by first | (simp; done) | (simp; omega) | omega) _ | with_reducible refine balloc ?_ _ | with_reducible refine bdrewN ?_ _ | with_reducible refine bdrew ?_ | with_reducible refine bstep ?_ (by assumption)))
  · have x1 : (1048576 : Int) < (s.size : Int) := by omega
    clear hs
    go_enter Tryd.func3, Tryd.ntmps3
    go_wp2
    go_ret
    exact ⟨rfl, Below.refl _ _⟩
end Go.Proofs.YtjjafaadjfahfaaDoor
