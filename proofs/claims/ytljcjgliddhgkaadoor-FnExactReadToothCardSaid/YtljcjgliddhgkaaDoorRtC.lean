/- A tooth read from a text: the program's function. -/
import Derived.Test.YtljcjgliddhgkaaDoorRtA
import Derived.Test.YtljcjgliddhgkaaDoorRtB
import Derived.Test.YtljcjgliddhgkaaDoorToothX
namespace Go.Proofs.YtljcjgliddhgkaaDoor
open Go.RowKit Ieee
open Go.Proofs.YtljcjgliddhgkaaDoorW.PrintWords
set_option maxRecDepth 100000
attribute [local irreducible] wpRel hexL cn
theorem split_row (c : UInt8) (s : ByteArray) (m : Int) (hs : s.size ≤ 1048576) (xs : List (List UInt8)) (n : Nat) (hx : splC c s.data.toList = xs) (hn : xs.length = n) (w : World) (hm : w.cell? ⟨2, 0, none⟩ = some (.int .i64 m)) :
    Calls Tryd.prog 33 #[.string s, .string ⟨#[c]⟩] w fun e w' => e = .returned (.slice (some ⟨w.heap.size, 0, none⟩) n n) ∧ Kd.C kS w' (some ⟨w.heap.size, 0, none⟩) n xs ∧ Below w.heap.size w w' := by
  subst hx
  subst hn
  exact split_any c s m w (by omega) hm
/-- The first three of four. -/
theorem row3of4 {w : World} {A : Option Addr} {a b c d : List UInt8} (h : Kd.C kS w A 4 [a, b, c, d]) : Kd.C kS w A 3 [a, b, c] := by
  refine ⟨rfl, by decide, fun _ => ?_⟩
  obtain ⟨ad, e, hh⟩ := h.2.2 (by decide)
  refine ⟨ad, e, fun j p hj => hh j p ?_⟩
  have hlt : j < 3 := by have := (List.getElem?_eq_some_iff.1 hj).1; simpa using this
  have hc : j = 0 ∨ j = 1 ∨ j = 2 := by omega
  rcases hc with rfl | rfl | rfl <;> simpa using hj
set_option maxHeartbeats 600000 in
theorem readTooth_impl_len (s : ByteArray) (m : Int) (hs : s.size ≤ 1048576) (xs : List (List UInt8)) (hx : splC 44 s.data.toList = xs) (h4 : xs.length ≠ 4) (w : World) (hm : w.cell? ⟨2, 0, none⟩ = some (.int .i64 m)) :
    Calls Tryd.prog 10 #[.string s] w (RtQ RtNo w) := by
  obtain ⟨n, hn⟩ : ∃ n, xs.length = n := ⟨_, rfl⟩
  have x1 : ((n : Int) != 4) = true := by simp; omega
  have HSP := Lib.hid (fun w => split_row 44 s m hs xs n hx hn w)
  have HM := Lib.hid ((bc (balloc (Below.refl _ _) (.cells #[.float .f32 0, .float .f32 0, .float .f32 0, .int .i8 0] 28)) 2 0 (World.block_lt_of_cell? w _ hm)).trans hm)
  clear hx hn h4 hs hm
  go_enter Tryd.func10, Tryd.ntmps10
  go_wp2_with (go_at_call 33; refine (HSP.out _ HM.out).mono ?_; rintro e w1 ⟨rfl, hC, hb1⟩; clear hC; have hc1 := bc hb1; have hf1 := bf hb1; have hs1 := hb1.size; (try simp at hs1); (try have hz10 : w.heap.size < w1.heap.size := by omega); (try have hz11 : w.heap.size + 1 < w1.heap.size := by omega); (try have hz12 : w.heap.size + 1 + 1 < w1.heap.size := by omega); (try have hz13 : w.heap.size + 1 + 1 + 1 < w1.heap.size := by omega))
  refine bodyPost_ret (v := .tuple #[zeroT, .int .i64 5]) (by simp only [results, Tryd.results10]; first | (go_simp; done) | (go_simp; rfl)) rfl ⟨_, _, _, _, _, rfl, ⟨rfl, rfl, rfl, rfl, rfl⟩, ?_⟩
  (repeat (first | with_reducible exact Below.refl _ _ | with_reducible refine bset ?_ (by first | (simp; done) | (simp; omega) | omega) _ | with_reducible refine balloc ?_ _ | with_reducible refine bdrewN ?_ _ | with_reducible refine bdrew ?_ | with_reducible refine bstep ?_ (by assumption)))
theorem nos3 (a b c : List UInt8) (hB : ∀ x ∈ [a, b, c], x.length ≤ 1048577) (A : Option Addr) (k : Nat) (w : World) (hA : Kd.C kS w A 3 [a, b, c]) : Calls Tryd.prog 34 #[.slice A 3 k] w (NosQ [a, b, c] w) :=
  numbersOf_any A k 3 [a, b, c] w rfl hA (by omega) hB
set_option maxHeartbeats 600000 in
theorem readTooth_impl_no (s : ByteArray) (m : Int) (hs : s.size ≤ 1048576) (a b c d : List UInt8) (hx : splC 44 s.data.toList = [a, b, c, d]) (hB : ∀ x ∈ [a, b, c], x.length ≤ 1048577) (h0 : [a, b, c].all rdOk = false) (w : World) (hm : w.cell? ⟨2, 0, none⟩ = some (.int .i64 m)) :
    Calls Tryd.prog 10 #[.string s] w (RtQ RtNo w) := by
  have HSP := Lib.hid (fun w => split_row 44 s m hs _ 4 hx rfl w)
  have HM := Lib.hid ((bc (balloc (Below.refl _ _) (.cells #[.float .f32 0, .float .f32 0, .float .f32 0, .int .i8 0] 28)) 2 0 (World.block_lt_of_cell? w _ hm)).trans hm)
  have HN := Lib.hid (nos3 a b c hB)
  have H0 := Lib.hid h0
  clear hx hs hm hB h0
  go_enter Tryd.func10, Tryd.ntmps10
  go_wp2_with (first | (go_at_call 33; refine (HSP.out _ HM.out).mono ?_; rintro e w1 ⟨rfl, hC, hb1⟩; (have e1 : ∀ o, (w.alloc o).heap.size = w.heap.size + 1 := fun o => by simp); rw [e1] at hC; have HC := Lib.hid hC; clear hC e1; have hc1 := bc hb1; have hf1 := bf hb1; have hs1 := hb1.size; (try simp at hs1); (try have hz10 : w.heap.size < w1.heap.size := by omega); (try have hz11 : w.heap.size + 1 < w1.heap.size := by omega); (try have hz12 : w.heap.size + 1 + 1 < w1.heap.size := by omega); (try have hz13 : w.heap.size + 1 + 1 + 1 < w1.heap.size := by omega)) | (go_at_call 34; refine (HN.out _ _ _ (row3of4 HC.out)).mono ?_; rintro e w2 ⟨⟨v, rfl, _⟩, hb2⟩; rw [H0.out]; have hc2 := bc hb2; have hf2 := bf hb2; have hs2 := hb2.size; (try simp at hs2); (try have hz20 : w.heap.size < w2.heap.size := by omega); (try have hz21 : w.heap.size + 1 < w2.heap.size := by omega); (try have hz22 : w.heap.size + 1 + 1 < w2.heap.size := by omega); (try have hz23 : w.heap.size + 1 + 1 + 1 < w2.heap.size := by omega)))
  refine bodyPost_ret (v := .tuple #[zeroT, .int .i64 5]) (by simp only [results, Tryd.results10]; first | (go_simp; done) | (go_simp; rfl)) rfl ⟨_, _, _, _, _, rfl, ⟨rfl, rfl, rfl, rfl, rfl⟩, ?_⟩
  (repeat (first | with_reducible exact Below.refl _ _ | with_reducible refine bset ?_ (by first | (simp; done) | (simp; omega) | omega) _ | with_reducible refine balloc ?_ _ | with_reducible refine bdrewN ?_ _ | with_reducible refine bdrew ?_ | with_reducible refine bstep ?_ (by assumption)))
/-- Three numbers of a row. -/
theorem rowF3 {w : World} {A : Option Addr} {x y z : Nat} (h : Kd.C kf w A 3 [x, y, z]) :
    ∃ g off a b c, A = some ⟨g, off, none⟩ ∧ g < w.heap.size ∧ w.cell? ⟨g, off, none⟩ = some (.float .f32 a) ∧ w.cell? ⟨g, off + 1, none⟩ = some (.float .f32 b) ∧ w.cell? ⟨g, off + 2, none⟩ = some (.float .f32 c) ∧ FV a x ∧ FV b y ∧ FV c z := by
  obtain ⟨g, off, a, e, hb, h0, f0⟩ := at_kf h 0 (by decide)
  obtain ⟨g', off', b, e', _, h1, f1⟩ := at_kf h 1 (by decide)
  obtain ⟨g'', off'', c, e'', _, h2, f2⟩ := at_kf h 2 (by decide)
  subst e
  injection e' with e'; injection e' with e1 e2; subst e1 e2
  injection e'' with e''; injection e'' with e1 e2; subst e1 e2
  exact ⟨g, off, a, b, c, rfl, hb, h0, h1, h2, f0, f1, f2⟩
set_option maxHeartbeats 1000000 in
theorem readTooth_impl_ok (sd : Int) (s : ByteArray) (m : Int) (hs : s.size ≤ 1048576) (a b c d : List UInt8) (hx : splC 44 s.data.toList = [a, b, c, d]) (hB : ∀ x ∈ [a, b, c], x.length ≤ 1048577) (h0 : [a, b, c].all rdOk = true) (hd : sd = if d = [49] then 1 else 0)
    (w : World) (hm : w.cell? ⟨2, 0, none⟩ = some (.int .i64 m)) :
    Calls Tryd.prog 10 #[.string s] w (RtQ (fun h x y z k => (h < 4294967296 ∧ x < 4294967296 ∧ y < 4294967296) ∧ ∃ h' x' y', cn h' = rdN a 0 ∧ cn x' = rdN b 0 ∧ cn y' = rdN c 0 ∧ ((txV h' x' y' sd = s.data.toList ∧ h = h' ∧ x = x' ∧ y = y' ∧ z = sd ∧ k = 0) ∨ (txV h' x' y' sd ≠ s.data.toList ∧ RtNo h x y z k))) w) := by
  have HSP := Lib.hid (fun w => split_row 44 s m hs _ 4 hx rfl w)
  have HM := Lib.hid ((bc (balloc (Below.refl _ _) (.cells #[.float .f32 0, .float .f32 0, .float .f32 0, .int .i8 0] 28)) 2 0 (World.block_lt_of_cell? w _ hm)).trans hm)
  have HN := Lib.hid (nos3 a b c hB)
  have H0 := Lib.hid h0
  clear hx hs hm hB h0
  go_enter Tryd.func10, Tryd.ntmps10
  go_wp2_with fail
  go_at_call 33
  refine (HSP.out _ HM.out).mono ?_
  rintro e w1 ⟨rfl, hC, hb1⟩
  have e0 : ∀ o, (w.alloc o).heap.size = w.heap.size + 1 := fun o => by simp
  rw [e0] at hC
  clear e0
  obtain ⟨g1, o1, e1, hg1, _, _, _, c3⟩ := row4 hC
  injection e1 with e1; injection e1 with e1 e2; subst e1 e2
  have HC := Lib.hid hC
  clear hC
  have hc1 := bc hb1; have hf1 := bf hb1; have hs1 := hb1.size; (try simp at hs1); (try have hz10 : w.heap.size < w1.heap.size := by omega); (try have hz11 : w.heap.size + 1 < w1.heap.size := by omega); (try have hz12 : w.heap.size + 1 + 1 < w1.heap.size := by omega); (try have hz13 : w.heap.size + 1 + 1 + 1 < w1.heap.size := by omega)
  go_wp2_with fail
  go_at_call 34
  refine (HN.out _ _ _ (row3of4 HC.out)).mono ?_
  rintro e w2 ⟨⟨v, rfl, hF⟩, hb2⟩
  obtain ⟨A, k, hv, _, hK⟩ := (hF H0.out).reads
  obtain ⟨g, off, h', x', y', rfl, hg, f0, f1, f2, F0, F1, F2⟩ := rowF3 hK
  have hv' : v = .slice (some ⟨g, off, none⟩) 3 k := hv
  subst hv'
  rw [H0.out]
  have HF := Lib.hid (And.intro F0 (And.intro F1 F2))
  clear hF hv hK F0 F1 F2
  have hc2 := bc hb2; have hf2 := bf hb2; have hs2 := hb2.size; (try simp at hs2); (try have hz20 : w.heap.size < w2.heap.size := by omega); (try have hz21 : w.heap.size + 1 < w2.heap.size := by omega); (try have hz22 : w.heap.size + 1 + 1 < w2.heap.size := by omega); (try have hz23 : w.heap.size + 1 + 1 + 1 < w2.heap.size := by omega)
  go_wp2
  have d3 := (hc2 (w.heap.size + 1) 3 hg1).trans c3
  go_region_held3 (fun w' => w'.cell? ⟨g, off, none⟩ = some (.float .f32 h') ∧ w'.cell? ⟨g, off + 1, none⟩ = some (.float .f32 x') ∧ w'.cell? ⟨g, off + 2, none⟩ = some (.float .f32 y')) (go_keep) (fail)
  by_cases h49 : d = [49]
  · subst h49
    rw [if_pos rfl] at hd
    subst hd
    by_cases htx : txV h' x' y' 1 = s.data.toList
    · have HTX := Lib.hid htx
      obtain ⟨tx, HT⟩ : ∃ tx, txV h' x' y' 1 = tx := ⟨_, rfl⟩
      have hq : (tx == s.toList) = true := by rw [Go.Lib.toList_data]; simpa [HT] using htx
      have hq2 : (tx != s.toList) = false := by rw [Go.Lib.toList_data]; simpa [HT] using htx
      clear htx
      go_wp2_with (go_at_call 8; refine (toothText_impl h' x' y' 1 HF.out.1.2 HF.out.2.1.2 HF.out.2.2.2 (by decide) (by decide) _).mono ?_; rintro e w3 ⟨rfl, hb3⟩; rw [HT]; have hc3 := bc hb3; have hf3 := bf hb3; have hs3 := hb3.size; (try simp at hs3); (try have hz30 : w.heap.size < w3.heap.size := by omega); (try have hz31 : w.heap.size + 1 < w3.heap.size := by omega); (try have hz32 : w.heap.size + 1 + 1 < w3.heap.size := by omega); (try have hz33 : w.heap.size + 1 + 1 + 1 < w3.heap.size := by omega); (try have hy320 : w2.heap.size < w3.heap.size := by omega); (try have hy321 : w2.heap.size + 1 < w3.heap.size := by omega); (have k30 : w3.cell? ⟨w.heap.size, 0, none⟩ = some (.float .f32 0) := (hc3 w.heap.size 0 (by first | omega | (simp; omega))).trans (by go_simp)); (have f30 := hf3 w.heap.size 0 (by first | omega | (simp; omega))); (have k31 : w3.cell? ⟨w.heap.size, 1, none⟩ = some (.float .f32 0) := (hc3 w.heap.size 1 (by first | omega | (simp; omega))).trans (by go_simp)); (have f31 := hf3 w.heap.size 1 (by first | omega | (simp; omega))); (have k32 : w3.cell? ⟨w.heap.size, 2, none⟩ = some (.float .f32 0) := (hc3 w.heap.size 2 (by first | omega | (simp; omega))).trans (by go_simp)); (have f32 := hf3 w.heap.size 2 (by first | omega | (simp; omega))); (have k33 : w3.cell? ⟨w.heap.size, 3, none⟩ = some (.int .i8 0) := (hc3 w.heap.size 3 (by first | omega | (simp; omega))).trans (by go_simp)); (have f33 := hf3 w.heap.size 3 (by first | omega | (simp; omega))); (have l30 : w3.cell? ⟨w2.heap.size, 0, none⟩ = some (.float .f32 h') := (hc3 w2.heap.size 0 (by first | omega | (simp; done) | (simp; omega))).trans (by go_simp)); (have l31 : w3.cell? ⟨w2.heap.size, 1, none⟩ = some (.float .f32 x') := (hc3 w2.heap.size 1 (by first | omega | (simp; done) | (simp; omega))).trans (by go_simp)); (have l32 : w3.cell? ⟨w2.heap.size, 2, none⟩ = some (.float .f32 y') := (hc3 w2.heap.size 2 (by first | omega | (simp; done) | (simp; omega))).trans (by go_simp)); (have l33 : w3.cell? ⟨w2.heap.size, 3, none⟩ = some (.int .i8 1) := (hc3 w2.heap.size 3 (by first | omega | (simp; done) | (simp; omega))).trans (by go_simp)))
      refine bodyPost_ret (v := .tuple #[.agg #[.float .f32 h', .float .f32 x', .float .f32 y', .int .i8 1], .int .i64 0]) (by simp only [results, Tryd.results10]; first | (go_simp; done) | (go_simp; rfl)) rfl ⟨_, _, _, _, _, rfl, ⟨⟨HF.out.1.2, HF.out.2.1.2, HF.out.2.2.2⟩, h', x', y', HF.out.1.1, HF.out.2.1.1, HF.out.2.2.1, .inl ⟨HTX.out, rfl, rfl, rfl, rfl, rfl⟩⟩, ?_⟩
      (repeat (first | with_reducible exact Below.refl _ _ | with_reducible refine bset ?_ (by first | (simp; done) | (simp; omega) | omega) _ | with_reducible refine balloc ?_ _ | with_reducible refine bdrewN ?_ _ | with_reducible refine bdrew ?_ | with_reducible refine bstep ?_ (by assumption)))
    · have HTX := Lib.hid htx
      obtain ⟨tx, HT⟩ : ∃ tx, txV h' x' y' 1 = tx := ⟨_, rfl⟩
      have hq : (tx == s.toList) = false := by rw [Go.Lib.toList_data]; simpa [HT] using htx
      have hq2 : (tx != s.toList) = true := by rw [Go.Lib.toList_data]; simpa [HT] using htx
      clear htx
      go_wp2_with (go_at_call 8; refine (toothText_impl h' x' y' 1 HF.out.1.2 HF.out.2.1.2 HF.out.2.2.2 (by decide) (by decide) _).mono ?_; rintro e w3 ⟨rfl, hb3⟩; rw [HT]; have hc3 := bc hb3; have hf3 := bf hb3; have hs3 := hb3.size; (try simp at hs3); (try have hz30 : w.heap.size < w3.heap.size := by omega); (try have hz31 : w.heap.size + 1 < w3.heap.size := by omega); (try have hz32 : w.heap.size + 1 + 1 < w3.heap.size := by omega); (try have hz33 : w.heap.size + 1 + 1 + 1 < w3.heap.size := by omega); (try have hy320 : w2.heap.size < w3.heap.size := by omega); (try have hy321 : w2.heap.size + 1 < w3.heap.size := by omega); (have k30 : w3.cell? ⟨w.heap.size, 0, none⟩ = some (.float .f32 0) := (hc3 w.heap.size 0 (by first | omega | (simp; omega))).trans (by go_simp)); (have f30 := hf3 w.heap.size 0 (by first | omega | (simp; omega))); (have k31 : w3.cell? ⟨w.heap.size, 1, none⟩ = some (.float .f32 0) := (hc3 w.heap.size 1 (by first | omega | (simp; omega))).trans (by go_simp)); (have f31 := hf3 w.heap.size 1 (by first | omega | (simp; omega))); (have k32 : w3.cell? ⟨w.heap.size, 2, none⟩ = some (.float .f32 0) := (hc3 w.heap.size 2 (by first | omega | (simp; omega))).trans (by go_simp)); (have f32 := hf3 w.heap.size 2 (by first | omega | (simp; omega))); (have k33 : w3.cell? ⟨w.heap.size, 3, none⟩ = some (.int .i8 0) := (hc3 w.heap.size 3 (by first | omega | (simp; omega))).trans (by go_simp)); (have f33 := hf3 w.heap.size 3 (by first | omega | (simp; omega))); (have l30 : w3.cell? ⟨w2.heap.size, 0, none⟩ = some (.float .f32 h') := (hc3 w2.heap.size 0 (by first | omega | (simp; done) | (simp; omega))).trans (by go_simp)); (have l31 : w3.cell? ⟨w2.heap.size, 1, none⟩ = some (.float .f32 x') := (hc3 w2.heap.size 1 (by first | omega | (simp; done) | (simp; omega))).trans (by go_simp)); (have l32 : w3.cell? ⟨w2.heap.size, 2, none⟩ = some (.float .f32 y') := (hc3 w2.heap.size 2 (by first | omega | (simp; done) | (simp; omega))).trans (by go_simp)); (have l33 : w3.cell? ⟨w2.heap.size, 3, none⟩ = some (.int .i8 1) := (hc3 w2.heap.size 3 (by first | omega | (simp; done) | (simp; omega))).trans (by go_simp)))
      refine bodyPost_ret (v := .tuple #[zeroT, .int .i64 5]) (by simp only [results, Tryd.results10]; first | (go_simp; done) | (go_simp; rfl)) rfl ⟨_, _, _, _, _, rfl, ⟨⟨by decide, by decide, by decide⟩, h', x', y', HF.out.1.1, HF.out.2.1.1, HF.out.2.2.1, .inr ⟨HTX.out, rfl, rfl, rfl, rfl, rfl⟩⟩, ?_⟩
      (repeat (first | with_reducible exact Below.refl _ _ | with_reducible refine bset ?_ (by first | (simp; done) | (simp; omega) | omega) _ | with_reducible refine balloc ?_ _ | with_reducible refine bdrewN ?_ _ | with_reducible refine bdrew ?_ | with_reducible refine bstep ?_ (by assumption)))
  · rw [if_neg h49] at hd
    subst hd
    have hne : (d == [49]) = false := by simpa using h49
    have hne2 : (d == (⟨#[49]⟩ : ByteArray).toList) = false := by rw [Go.Lib.toList_data]; exact hne
    clear h49
    by_cases htx : txV h' x' y' 0 = s.data.toList
    · have HTX := Lib.hid htx
      obtain ⟨tx, HT⟩ : ∃ tx, txV h' x' y' 0 = tx := ⟨_, rfl⟩
      have hq : (tx == s.toList) = true := by rw [Go.Lib.toList_data]; simpa [HT] using htx
      have hq2 : (tx != s.toList) = false := by rw [Go.Lib.toList_data]; simpa [HT] using htx
      clear htx
      go_wp2_with (go_at_call 8; refine (toothText_impl h' x' y' 0 HF.out.1.2 HF.out.2.1.2 HF.out.2.2.2 (by decide) (by decide) _).mono ?_; rintro e w3 ⟨rfl, hb3⟩; rw [HT]; have hc3 := bc hb3; have hf3 := bf hb3; have hs3 := hb3.size; (try simp at hs3); (try have hz30 : w.heap.size < w3.heap.size := by omega); (try have hz31 : w.heap.size + 1 < w3.heap.size := by omega); (try have hz32 : w.heap.size + 1 + 1 < w3.heap.size := by omega); (try have hz33 : w.heap.size + 1 + 1 + 1 < w3.heap.size := by omega); (try have hy320 : w2.heap.size < w3.heap.size := by omega); (try have hy321 : w2.heap.size + 1 < w3.heap.size := by omega); (have k30 : w3.cell? ⟨w.heap.size, 0, none⟩ = some (.float .f32 0) := (hc3 w.heap.size 0 (by first | omega | (simp; omega))).trans (by go_simp)); (have f30 := hf3 w.heap.size 0 (by first | omega | (simp; omega))); (have k31 : w3.cell? ⟨w.heap.size, 1, none⟩ = some (.float .f32 0) := (hc3 w.heap.size 1 (by first | omega | (simp; omega))).trans (by go_simp)); (have f31 := hf3 w.heap.size 1 (by first | omega | (simp; omega))); (have k32 : w3.cell? ⟨w.heap.size, 2, none⟩ = some (.float .f32 0) := (hc3 w.heap.size 2 (by first | omega | (simp; omega))).trans (by go_simp)); (have f32 := hf3 w.heap.size 2 (by first | omega | (simp; omega))); (have k33 : w3.cell? ⟨w.heap.size, 3, none⟩ = some (.int .i8 0) := (hc3 w.heap.size 3 (by first | omega | (simp; omega))).trans (by go_simp)); (have f33 := hf3 w.heap.size 3 (by first | omega | (simp; omega))); (have l30 : w3.cell? ⟨w2.heap.size, 0, none⟩ = some (.float .f32 h') := (hc3 w2.heap.size 0 (by first | omega | (simp; done) | (simp; omega))).trans (by go_simp)); (have l31 : w3.cell? ⟨w2.heap.size, 1, none⟩ = some (.float .f32 x') := (hc3 w2.heap.size 1 (by first | omega | (simp; done) | (simp; omega))).trans (by go_simp)); (have l32 : w3.cell? ⟨w2.heap.size, 2, none⟩ = some (.float .f32 y') := (hc3 w2.heap.size 2 (by first | omega | (simp; done) | (simp; omega))).trans (by go_simp)); (have l33 : w3.cell? ⟨w2.heap.size, 3, none⟩ = some (.int .i8 0) := (hc3 w2.heap.size 3 (by first | omega | (simp; done) | (simp; omega))).trans (by go_simp)))
      refine bodyPost_ret (v := .tuple #[.agg #[.float .f32 h', .float .f32 x', .float .f32 y', .int .i8 0], .int .i64 0]) (by simp only [results, Tryd.results10]; first | (go_simp; done) | (go_simp; rfl)) rfl ⟨_, _, _, _, _, rfl, ⟨⟨HF.out.1.2, HF.out.2.1.2, HF.out.2.2.2⟩, h', x', y', HF.out.1.1, HF.out.2.1.1, HF.out.2.2.1, .inl ⟨HTX.out, rfl, rfl, rfl, rfl, rfl⟩⟩, ?_⟩
      (repeat (first | with_reducible exact Below.refl _ _ | with_reducible refine bset ?_ (by first | (simp; done) | (simp; omega) | omega) _ | with_reducible refine balloc ?_ _ | with_reducible refine bdrewN ?_ _ | with_reducible refine bdrew ?_ | with_reducible refine bstep ?_ (by assumption)))
    · have HTX := Lib.hid htx
      obtain ⟨tx, HT⟩ : ∃ tx, txV h' x' y' 0 = tx := ⟨_, rfl⟩
      have hq : (tx == s.toList) = false := by rw [Go.Lib.toList_data]; simpa [HT] using htx
      have hq2 : (tx != s.toList) = true := by rw [Go.Lib.toList_data]; simpa [HT] using htx
      clear htx
      go_wp2_with (go_at_call 8; refine (toothText_impl h' x' y' 0 HF.out.1.2 HF.out.2.1.2 HF.out.2.2.2 (by decide) (by decide) _).mono ?_; rintro e w3 ⟨rfl, hb3⟩; rw [HT]; have hc3 := bc hb3; have hf3 := bf hb3; have hs3 := hb3.size; (try simp at hs3); (try have hz30 : w.heap.size < w3.heap.size := by omega); (try have hz31 : w.heap.size + 1 < w3.heap.size := by omega); (try have hz32 : w.heap.size + 1 + 1 < w3.heap.size := by omega); (try have hz33 : w.heap.size + 1 + 1 + 1 < w3.heap.size := by omega); (try have hy320 : w2.heap.size < w3.heap.size := by omega); (try have hy321 : w2.heap.size + 1 < w3.heap.size := by omega); (have k30 : w3.cell? ⟨w.heap.size, 0, none⟩ = some (.float .f32 0) := (hc3 w.heap.size 0 (by first | omega | (simp; omega))).trans (by go_simp)); (have f30 := hf3 w.heap.size 0 (by first | omega | (simp; omega))); (have k31 : w3.cell? ⟨w.heap.size, 1, none⟩ = some (.float .f32 0) := (hc3 w.heap.size 1 (by first | omega | (simp; omega))).trans (by go_simp)); (have f31 := hf3 w.heap.size 1 (by first | omega | (simp; omega))); (have k32 : w3.cell? ⟨w.heap.size, 2, none⟩ = some (.float .f32 0) := (hc3 w.heap.size 2 (by first | omega | (simp; omega))).trans (by go_simp)); (have f32 := hf3 w.heap.size 2 (by first | omega | (simp; omega))); (have k33 : w3.cell? ⟨w.heap.size, 3, none⟩ = some (.int .i8 0) := (hc3 w.heap.size 3 (by first | omega | (simp; omega))).trans (by go_simp)); (have f33 := hf3 w.heap.size 3 (by first | omega | (simp; omega))); (have l30 : w3.cell? ⟨w2.heap.size, 0, none⟩ = some (.float .f32 h') := (hc3 w2.heap.size 0 (by first | omega | (simp; done) | (simp; omega))).trans (by go_simp)); (have l31 : w3.cell? ⟨w2.heap.size, 1, none⟩ = some (.float .f32 x') := (hc3 w2.heap.size 1 (by first | omega | (simp; done) | (simp; omega))).trans (by go_simp)); (have l32 : w3.cell? ⟨w2.heap.size, 2, none⟩ = some (.float .f32 y') := (hc3 w2.heap.size 2 (by first | omega | (simp; done) | (simp; omega))).trans (by go_simp)); (have l33 : w3.cell? ⟨w2.heap.size, 3, none⟩ = some (.int .i8 0) := (hc3 w2.heap.size 3 (by first | omega | (simp; done) | (simp; omega))).trans (by go_simp)))
      refine bodyPost_ret (v := .tuple #[zeroT, .int .i64 5]) (by simp only [results, Tryd.results10]; first | (go_simp; done) | (go_simp; rfl)) rfl ⟨_, _, _, _, _, rfl, ⟨⟨by decide, by decide, by decide⟩, h', x', y', HF.out.1.1, HF.out.2.1.1, HF.out.2.2.1, .inr ⟨HTX.out, rfl, rfl, rfl, rfl, rfl⟩⟩, ?_⟩
      (repeat (first | with_reducible exact Below.refl _ _ | with_reducible refine bset ?_ (by first | (simp; done) | (simp; omega) | omega) _ | with_reducible refine balloc ?_ _ | with_reducible refine bdrewN ?_ _ | with_reducible refine bdrew ?_ | with_reducible refine bstep ?_ (by assumption)))
end Go.Proofs.YtljcjgliddhgkaaDoor
