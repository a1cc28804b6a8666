/- Texts cut at one byte by the library; numbers out of a row of texts: the program's side. A tooth read from a text: the model's function. A tooth read from a text: the program's function. A tooth read from a text: both sides agree, and the law. -/
import Derived.Test.YtljcjgliddhgkaaDoorRdA
import Derived.Test.YtljcjgliddhgkaaDoorFs
import Derived.Test.YtljcjgliddhgkaaDoorKs
import Derived.Test.YtljcjgliddhgkaaDoorTooth4
import Derived.Test.YtljcjgliddhgkaaDoorToothT
import Derived.Test.YtljcjgliddhgkaaDoorTooth2
namespace Go.Proofs.YtljcjgliddhgkaaDoor
open Go.RowKit Ieee
open Go.Proofs.YtljcjgliddhgkaaDoorW.PrintWords
set_option maxRecDepth 100000
attribute [local irreducible] wpRel
theorem splitB_one (c : UInt8) (s : ByteArray) : (Go.Lib.splitB ⟨#[c]⟩ 0 (Go.Lib.countB s ⟨#[c]⟩) s).map (·.data.toList) = splC c s.data.toList := by
  rw [Go.Lib.splitB_data]
  exact splitK_one c s.data.toList
theorem splC_len (c : UInt8) : ∀ l : List UInt8, (splC c l).length ≤ l.length + 1
  | [] => Nat.le_refl _
  | b :: l => by
    have ih := splC_len c l
    obtain ⟨h, t, e⟩ := splC_cons c l
    unfold splC
    split
    · simp only [List.length_cons]; omega
    · rw [e] at ih ⊢
      simp only [List.length_cons, List.tail_cons] at ih ⊢; omega
/-- A row of texts out of a block of them. -/
theorem kS_block (w : World) (xs : List ByteArray) (t : Nat) (n : Nat) (hn : xs.length = n) (h1 : 1 ≤ n) (hm : n ≤ 9223372036854775807) :
    Kd.C kS (w.alloc (.cells (xs.map Value.string).toArray t)) (some ⟨w.heap.size, 0, none⟩) n (xs.map (·.data.toList)) := by
  refine ⟨by rw [List.length_map]; exact hn, hm, fun _ => ⟨_, rfl, fun j p hj => ?_⟩⟩
  rw [List.getElem?_map] at hj
  obtain ⟨x, hx, hp⟩ := Option.map_eq_some_iff.1 hj
  subst hp
  refine ⟨[.string x], rfl, rfl, fun i u hu => ?_⟩
  obtain ⟨rfl, rfl⟩ : i = 0 ∧ u = .string x := by
    cases i with
    | zero => exact ⟨rfl, by simpa using hu.symm⟩
    | succ i => simp at hu
  rw [show (⟨w.heap.size, 0, none⟩ : Addr).add (j * kS.sz + 0) = ⟨w.heap.size, j, none⟩ from by show Addr.add _ (j * 1 + 0) = _; by_cases h0 : j = 0 <;> simp [Addr.add, h0]]
  rw [World.cell?_alloc_at _ _ _ _ rfl]
  simp [hx]
theorem split_any (c : UInt8) (s : ByteArray) (m : Int) (w : World) (hs : s.size ≤ 1048577) (hm : w.cell? ⟨2, 0, none⟩ = some (.int .i64 m)) :
    Calls Tryd.prog 33 #[.string s, .string ⟨#[c]⟩] w fun e w' => e = .returned (.slice (some ⟨w.heap.size, 0, none⟩) (splC c s.data.toList).length (splC c s.data.toList).length) ∧ Kd.C kS w' (some ⟨w.heap.size, 0, none⟩) (splC c s.data.toList).length (splC c s.data.toList) ∧ Below w.heap.size w w' := by
  refine (Tryd.strings_Split s ⟨#[c]⟩ m w (by omega) hm (Nat.le_refl 1)).mono ?_
  rintro e w' ⟨rfl, rfl⟩
  have hl : (splC c s.data.toList).length = Go.Lib.countB s ⟨#[c]⟩ + 1 := by
    rw [← splitB_one, List.length_map]
    exact Go.Lib.splitB_all ⟨#[c]⟩ (Nat.le_refl 1) 0 _ s rfl
  rw [hl]
  refine ⟨rfl, ?_, balloc (Below.refl _ _) _⟩
  have hk := kS_block w (Go.Lib.splitB ⟨#[c]⟩ 0 (Go.Lib.countB s ⟨#[c]⟩) s) 9 (Go.Lib.countB s ⟨#[c]⟩ + 1) (by rw [← hl, ← splitB_one, List.length_map]) (by omega) (by
    have := splC_len c s.data.toList
    rw [hl] at this
    have h2 : s.data.toList.length = s.size := rfl
    omega)
  rw [splitB_one] at hk
  exact hk
theorem getD_size {xs : List (List UInt8)} {j : Nat} {B : Nat} (h : ∀ x ∈ xs, x.length ≤ B) (hj : j < xs.length) : (⟨(xs.getD j []).toArray⟩ : ByteArray).size ≤ B := by
  have hm : xs.getD j [] ∈ xs := by
    rw [List.getD_eq_getElem?_getD, List.getElem?_eq_getElem hj]
    exact List.getElem_mem hj
  have := h _ hm
  show (xs.getD j []).toArray.size ≤ B
  simpa using this
theorem rn_no (l : List UInt8) (hs : (⟨l.toArray⟩ : ByteArray).size ≤ 1048577) (h : rdOk l = false) (w : World) :
    Calls Tryd.prog 62 #[.string ⟨l.toArray⟩] w fun e w' => e = .returned (.tuple #[.float .f32 0, .int .i64 5]) ∧ Below w.heap.size w w' := by
  refine (readNumber_any ⟨l.toArray⟩ hs w).mono ?_
  rintro e w' ⟨rfl, hb⟩
  refine ⟨?_, hb⟩
  have e1 : (⟨l.toArray⟩ : ByteArray).data.toList = l := rfl
  rw [e1]
  unfold rnV
  rw [h]; rfl
theorem rn_ok (l : List UInt8) (hs : (⟨l.toArray⟩ : ByteArray).size ≤ 1048577) (h : rdOk l = true) (w : World) :
    Calls Tryd.prog 62 #[.string ⟨l.toArray⟩] w fun e w' => e = .returned (.tuple #[.float .f32 (rdN l 0), .int .i64 0]) ∧ Below w.heap.size w w' := by
  refine (readNumber_any ⟨l.toArray⟩ hs w).mono ?_
  rintro e w' ⟨rfl, hb⟩
  refine ⟨?_, hb⟩
  have e1 : (⟨l.toArray⟩ : ByteArray).data.toList = l := rfl
  rw [e1]
  unfold rnV
  rw [h]; rfl
/-- What comes of reading a row of texts. -/
def NosQ (xs : List (List UInt8)) (w : World) (e : Ending) (w' : World) : Prop :=
  (∃ v, e = .returned (.tuple #[v, .bool (xs.all rdOk)]) ∧ (xs.all rdOk = true → FR w' w.heap.size v (xs.map fun l => rdN l 0))) ∧ Below w.heap.size w w'
set_option maxHeartbeats 600000 in
theorem numbersOf_any (A : Option Addr) (c n : Nat) (xs : List (List UInt8)) (w : World) (hn1 : xs.length = n) (hA : Kd.C kS w A n xs) (hn : n ≤ 1048577) (hB : ∀ x ∈ xs, x.length ≤ 1048577) :
    Calls Tryd.prog 34 #[.slice A n c] w (NosQ xs w) := by
  have HA := Lib.hid hA
  have HN := Lib.hid hn1
  have HB := Lib.hid hB
  clear hA hn1 hB
  have HR0 := Lib.hid (FR.empty (w := w.alloc (.cells #[] 22)) w.heap.size w.heap.size (heap_alloc_new w _) (Nat.le_refl _))
  go_enter Tryd.func34, Tryd.ntmps34
  go_wp2
  go_loopw [4, 12] (fun v i wr => ∃ k : Nat, k ≤ n ∧ i = .int .i64 (k : Nat) ∧ Hid ((xs.take k).all rdOk = true) ∧ Hid (FR wr w.heap.size v ((xs.take k).map fun l => rdN l 0)) ∧ Below w.heap.size w wr) (fun _ i _ => n - (intOf i).toNat)
  case atStart => exact ⟨0, Nat.zero_le _, rfl, Lib.hid rfl, HR0, balloc (Below.refl _ _) _⟩
  case round =>
    clear HR0
    obtain ⟨k, hk, rfl, HO, HR, hb⟩ := hrel
    by_cases hlt : k < n
    · obtain ⟨b, off, rfl, hbl, c0⟩ := at_kS HA.out k hlt
      have d0 := (bc hb b (off + k) hbl).trans c0
      have x1 : (k : Int) < (n : Int) := by omega
      have x2 : (0 : Int) ≤ (k : Int) := by omega
      have hkx : k < xs.length := by have := HN.out; omega
      have HSZ := Lib.hid (getD_size HB.out hkx)
      have htk : xs.take (k + 1) = xs.take k ++ [xs.getD k []] := by
        rw [List.take_succ_eq_append_getElem hkx, List.getD_eq_getElem?_getD, List.getElem?_eq_getElem hkx]; rfl
      have hmem : xs.getD k [] ∈ xs := by
        rw [List.getD_eq_getElem?_getD, List.getElem?_eq_getElem hkx]
        exact List.getElem_mem hkx
      obtain ⟨l, hl⟩ : ∃ l, xs.getD k [] = l := ⟨_, rfl⟩
      rw [hl] at d0 HSZ htk hmem
      clear hl c0
      cases hok : rdOk l
      · have hall : xs.all rdOk = false := by
          rw [Bool.eq_false_iff]
          intro h
          rw [List.all_eq_true.1 h _ hmem] at hok
          cases hok
        have HC := Lib.hid hok
        have HALL := Lib.hid hall
        clear hall hok htk hmem
        go_wp2_with (go_at_call 62; refine (rn_no l HSZ.out HC.out _).mono ?_; rintro e w2 ⟨rfl, hb2⟩)
        go_ret2
        exact ⟨⟨_, by rw [HALL.out]; rfl, fun h => by rw [HALL.out] at h; cases h⟩, bstep hb hb2⟩
      · have HC := Lib.hid hok
        have HO2 := Lib.hid (show (xs.take (k + 1)).all rdOk = true by rw [htk, List.all_append, HO.out]; simp [hok])
        have HM := Lib.hid (show (xs.take (k + 1)).map (fun l => rdN l 0) = (xs.take k).map (fun l => rdN l 0) ++ [rdN l 0] by rw [htk, List.map_append]; rfl)
        have HL := Lib.hid (show ((xs.take k).map fun l => rdN l 0).length ≤ 1048576 by rw [List.length_map, List.length_take]; omega)
        have hcn : cn (rdN l 0) = rdN l 0 := by
          unfold rdOk at hok
          simp only [Bool.and_eq_true, decide_eq_true_eq] at hok
          exact hok.2
        have HF := Lib.hid (show FV (rdN l 0) (rdN l 0) from ⟨hcn, rdN_lt _ _ (by decide)⟩)
        have HRO := Lib.hid (fun w' => (rn_ok l HSZ.out HC.out w'))
        clear hok htk hcn hmem
        obtain ⟨r, hr⟩ : ∃ r, rdN l 0 = r := ⟨_, rfl⟩
        rw [hr] at HF HM HRO
        clear hr
        go_wp2_with fail
        go_at_call 62
        refine (HRO.out _).mono ?_
        rintro e w2 ⟨rfl, hb2⟩
        have HR2 := Lib.hid (HR.out.below hb2)
        have hbb := bstep hb hb2
        go_wp2_with (at_builtin; go_must ((refine apF (w0 := w) (o := ⟨some 26, _, _, _, _, _⟩) rfl (.tmp 23) (.tmp 25) rfl u4 ((xs.take k).map (fun l => rdN l 0)) r r ?y26 ?x26 HF.out ?o26 ?b26 HL.out ?_; (case y26 => rfl); (case x26 => go_simp); (case o26 => (with_reducible repeat (first | apply FR.alloc | apply FR.drewN | apply FR.drew)); exact HR2.out); (case b26 => (repeat (first | with_reducible exact Below.refl _ _ | with_reducible refine bset ?_ (by first | (simp; done) | (simp; omega) | omega) _ | with_reducible refine balloc ?_ _ | with_reducible refine bdrewN ?_ _ | with_reducible refine bdrew ?_ | with_reducible refine bstep ?_ (by assumption)))); intro v26 w26 ho_ hb26 hg26 hat26; have HO26 := Lib.hid ho_; clear ho_ hg26 hat26)))
        go_roundw
        case rel => exact ⟨k + 1, hlt, by go_num, HO2, Lib.hid (by rw [HM.out]; exact HO26.out), hb26⟩
        case measure => simp [intOf]; omega
    · obtain rfl : k = n := by omega
      have htk : xs.take k = xs := List.take_of_length_le (by have := HN.out; omega)
      rw [htk] at HO HR
      clear htk hlt
      go_wp2
      go_ret2
      exact ⟨⟨_, by rw [HO.out]; rfl, fun _ => HR.out⟩, hb⟩
end Go.Proofs.YtljcjgliddhgkaaDoor
namespace Go.Proofs.YtljcjgliddhgkaaDoor
open Go.RowKit Ieee
open Go.Proofs.YtljcjgliddhgkaaDoorW.PrintWords
set_option maxRecDepth 100000
attribute [local irreducible] wpRel hexL cn
theorem l01Split_row (s : ByteArray) (c : UInt8) (hs : s.size ≤ 1048576) (xs : List (List UInt8)) (n : Nat) (hx : splC c s.data.toList = xs) (hn : xs.length = n) (w : World) :
    Calls Tryd.prog 30 #[.string s, .int .u8 (c.toNat : Int)] w fun e w' => ∃ A k, e = .returned (.slice A n k) ∧ Kd.C kS w' A n xs ∧ Below w.heap.size w w' := by
  refine (l01Split_any s c hs w).mono ?_
  rintro e w' ⟨v, rfl, hR, hb⟩
  subst hx
  subst hn
  obtain ⟨A, k, hv, _, hC⟩ := hR.reads
  exact ⟨A, k, by rw [hv], hC, hb⟩
/-- Four texts of a row. -/
theorem row4 {w : World} {A : Option Addr} {a b c d : List UInt8} (h : Kd.C kS w A 4 [a, b, c, d]) :
    ∃ g off, A = some ⟨g, off, none⟩ ∧ g < w.heap.size ∧ w.cell? ⟨g, off, none⟩ = some (.string ⟨a.toArray⟩) ∧ w.cell? ⟨g, off + 1, none⟩ = some (.string ⟨b.toArray⟩) ∧ w.cell? ⟨g, off + 2, none⟩ = some (.string ⟨c.toArray⟩) ∧ w.cell? ⟨g, off + 3, none⟩ = some (.string ⟨d.toArray⟩) := by
  obtain ⟨g, off, e, hb, h0⟩ := at_kS h 0 (by decide)
  subst e
  refine ⟨g, off, rfl, hb, h0, ?_, ?_, ?_⟩
  · obtain ⟨g', off', e, _, h1⟩ := at_kS h 1 (by decide)
    injection e with e; injection e with e1 e2; subst e1 e2; exact h1
  · obtain ⟨g', off', e, _, h1⟩ := at_kS h 2 (by decide)
    injection e with e; injection e with e1 e2; subst e1 e2; exact h1
  · obtain ⟨g', off', e, _, h1⟩ := at_kS h 3 (by decide)
    injection e with e; injection e with e1 e2; subst e1 e2; exact h1
theorem data_size (l : List UInt8) : (⟨l.toArray⟩ : ByteArray).size = l.length := by show l.toArray.size = _; simp
/-- What comes of reading a tooth. -/
def RtQ (P : Nat → Nat → Nat → Int → Int → Prop) (w : World) (e : Ending) (w' : World) : Prop :=
  ∃ h x y s k, e = .returned (.tuple #[.agg #[.float .f32 h, .float .f32 x, .float .f32 y, .int .i8 s], .int .i64 k]) ∧ P h x y s k ∧ Below w.heap.size w w'
def RtNo (h x y : Nat) (s k : Int) : Prop := h = 0 ∧ x = 0 ∧ y = 0 ∧ s = 0 ∧ k = 5
set_option maxHeartbeats 600000 in
theorem readTooth_spec_len (s : ByteArray) (hs : s.size ≤ 1048576) (xs : List (List UInt8)) (hx : splC 44 s.data.toList = xs) (h4 : xs.length ≠ 4) (w : World) :
    Calls Tryd.prog 9 #[.string s] w (RtQ RtNo w) := by
  obtain ⟨n, hn⟩ : ∃ n, xs.length = n := ⟨_, rfl⟩
  have x1 : ((n : Int) != 4) = true := by simp; omega
  have HSP := Lib.hid (fun w => l01Split_row s 44 hs xs n hx hn w)
  clear hx hn h4 hs
  go_enter Tryd.func9, Tryd.ntmps9
  go_wp2_with (go_at_call 30; refine (HSP.out _).mono ?_; rintro e w1 ⟨A, k, rfl, hC, hb1⟩; have HC := Lib.hid hC; clear hC; have hc1 := bc hb1; have hf1 := bf hb1; have hs1 := hb1.size; (try simp at hs1); (try have hz10 : w.heap.size < w1.heap.size := by omega); (try have hz11 : w.heap.size + 1 < w1.heap.size := by omega); (try have hz12 : w.heap.size + 1 + 1 < w1.heap.size := by omega); (try have hz13 : w.heap.size + 1 + 1 + 1 < w1.heap.size := by omega))
  refine bodyPost_ret (v := .tuple #[zeroT, .int .i64 5]) (by simp only [results, Tryd.results9]; go_simp; rfl) rfl ⟨_, _, _, _, _, rfl, ⟨rfl, rfl, rfl, rfl, rfl⟩, ?_⟩
  (repeat (first | with_reducible exact Below.refl _ _ | with_reducible refine bset ?_ (by first | (simp; done) | (simp; omega) | omega) _ | with_reducible refine balloc ?_ _ | with_reducible refine bdrewN ?_ _ | with_reducible refine bdrew ?_ | with_reducible refine bstep ?_ (by assumption)))
set_option maxHeartbeats 1000000 in
theorem readTooth_spec_w0 (s : ByteArray) (hs : s.size ≤ 1048576) (a b c d : List UInt8) (hx : splC 44 s.data.toList = [a, b, c, d]) (ha : a.length ≤ 1048577) (k0 : rdOk a = false) (w : World) :
    Calls Tryd.prog 9 #[.string s] w (RtQ RtNo w) := by
  have HSP := Lib.hid (fun w => l01Split_row s 44 hs _ 4 hx rfl w)
  have R0 := Lib.hid (l01Read_no ⟨a.toArray⟩ (by rw [data_size]; exact ha) k0)
  clear hx hs ha k0 
  go_enter Tryd.func9, Tryd.ntmps9
  go_wp2_with (go_at_call 30; refine (HSP.out _).mono ?_; rintro e w1 ⟨A, k, rfl, hC, hb1⟩; obtain ⟨g, off, rfl, hg, c0, c1, c2, c3⟩ := row4 hC; clear hC; have hc1 := bc hb1; have hf1 := bf hb1; have hs1 := hb1.size; (try simp at hs1); (try have hz10 : w.heap.size < w1.heap.size := by omega); (try have hz11 : w.heap.size + 1 < w1.heap.size := by omega); (try have hz12 : w.heap.size + 1 + 1 < w1.heap.size := by omega); (try have hz13 : w.heap.size + 1 + 1 + 1 < w1.heap.size := by omega))
  refine wp_loop_rounds 4 ?_
  rw [rounds_succ]
  go_wp2_with (go_at_call 31; refine (R0.out _).mono ?_; rintro e w2 ⟨⟨r0, rfl⟩, rfl⟩)
  refine bodyPost_ret (v := .tuple #[zeroT, .int .i64 5]) (by simp only [results, Tryd.results9]; go_simp; rfl) rfl ⟨_, _, _, _, _, rfl, ⟨rfl, rfl, rfl, rfl, rfl⟩, ?_⟩
  (repeat (first | with_reducible exact Below.refl _ _ | with_reducible refine bset ?_ (by first | (simp; done) | (simp; omega) | omega) _ | with_reducible refine balloc ?_ _ | with_reducible refine bdrewN ?_ _ | with_reducible refine bdrew ?_ | with_reducible refine bstep ?_ (by assumption)))
set_option maxHeartbeats 1000000 in
theorem readTooth_spec_w1 (s : ByteArray) (hs : s.size ≤ 1048576) (a b c d : List UInt8) (hx : splC 44 s.data.toList = [a, b, c, d]) (ha : a.length ≤ 1048577) (hb : b.length ≤ 1048577) (k0 : rdOk a = true) (k1 : rdOk b = false) (w : World) :
    Calls Tryd.prog 9 #[.string s] w (RtQ RtNo w) := by
  have HSP := Lib.hid (fun w => l01Split_row s 44 hs _ 4 hx rfl w)
  have R0 := Lib.hid (l01Read_ok ⟨a.toArray⟩ (by rw [data_size]; exact ha) k0)
  rw [show (⟨a.toArray⟩ : ByteArray).data.toList = a from rfl] at R0
  obtain ⟨v0, hv0⟩ : ∃ v, rdN a 0 = v := ⟨_, rfl⟩
  rw [hv0] at R0
  have R1 := Lib.hid (l01Read_no ⟨b.toArray⟩ (by rw [data_size]; exact hb) k1)
  clear hx hs ha k0 hb k1 hv0
  go_enter Tryd.func9, Tryd.ntmps9
  go_wp2_with (go_at_call 30; refine (HSP.out _).mono ?_; rintro e w1 ⟨A, k, rfl, hC, hb1⟩; obtain ⟨g, off, rfl, hg, c0, c1, c2, c3⟩ := row4 hC; clear hC; have hc1 := bc hb1; have hf1 := bf hb1; have hs1 := hb1.size; (try simp at hs1); (try have hz10 : w.heap.size < w1.heap.size := by omega); (try have hz11 : w.heap.size + 1 < w1.heap.size := by omega); (try have hz12 : w.heap.size + 1 + 1 < w1.heap.size := by omega); (try have hz13 : w.heap.size + 1 + 1 + 1 < w1.heap.size := by omega))
  refine wp_loop_rounds 4 ?_
  rw [rounds_succ]
  go_wp2_with (go_at_call 31; refine (R0.out _).mono ?_; rintro e w2 ⟨rfl, rfl⟩)
  rw [rounds_succ]
  go_wp2_with (go_at_call 31; refine (R1.out _).mono ?_; rintro e w2 ⟨⟨r0, rfl⟩, rfl⟩)
  refine bodyPost_ret (v := .tuple #[zeroT, .int .i64 5]) (by simp only [results, Tryd.results9]; go_simp; rfl) rfl ⟨_, _, _, _, _, rfl, ⟨rfl, rfl, rfl, rfl, rfl⟩, ?_⟩
  (repeat (first | with_reducible exact Below.refl _ _ | with_reducible refine bset ?_ (by first | (simp; done) | (simp; omega) | omega) _ | with_reducible refine balloc ?_ _ | with_reducible refine bdrewN ?_ _ | with_reducible refine bdrew ?_ | with_reducible refine bstep ?_ (by assumption)))
set_option maxHeartbeats 1000000 in
theorem readTooth_spec_w2 (s : ByteArray) (hs : s.size ≤ 1048576) (a b c d : List UInt8) (hx : splC 44 s.data.toList = [a, b, c, d]) (ha : a.length ≤ 1048577) (hb : b.length ≤ 1048577) (hc : c.length ≤ 1048577) (k0 : rdOk a = true) (k1 : rdOk b = true) (k2 : rdOk c = false) (w : World) :
    Calls Tryd.prog 9 #[.string s] w (RtQ RtNo w) := by
  have HSP := Lib.hid (fun w => l01Split_row s 44 hs _ 4 hx rfl w)
  have R0 := Lib.hid (l01Read_ok ⟨a.toArray⟩ (by rw [data_size]; exact ha) k0)
  rw [show (⟨a.toArray⟩ : ByteArray).data.toList = a from rfl] at R0
  obtain ⟨v0, hv0⟩ : ∃ v, rdN a 0 = v := ⟨_, rfl⟩
  rw [hv0] at R0
  have R1 := Lib.hid (l01Read_ok ⟨b.toArray⟩ (by rw [data_size]; exact hb) k1)
  rw [show (⟨b.toArray⟩ : ByteArray).data.toList = b from rfl] at R1
  obtain ⟨v1, hv1⟩ : ∃ v, rdN b 0 = v := ⟨_, rfl⟩
  rw [hv1] at R1
  have R2 := Lib.hid (l01Read_no ⟨c.toArray⟩ (by rw [data_size]; exact hc) k2)
  clear hx hs ha k0 hb k1 hc k2 hv0 hv1
  go_enter Tryd.func9, Tryd.ntmps9
  go_wp2_with (go_at_call 30; refine (HSP.out _).mono ?_; rintro e w1 ⟨A, k, rfl, hC, hb1⟩; obtain ⟨g, off, rfl, hg, c0, c1, c2, c3⟩ := row4 hC; clear hC; have hc1 := bc hb1; have hf1 := bf hb1; have hs1 := hb1.size; (try simp at hs1); (try have hz10 : w.heap.size < w1.heap.size := by omega); (try have hz11 : w.heap.size + 1 < w1.heap.size := by omega); (try have hz12 : w.heap.size + 1 + 1 < w1.heap.size := by omega); (try have hz13 : w.heap.size + 1 + 1 + 1 < w1.heap.size := by omega))
  refine wp_loop_rounds 4 ?_
  rw [rounds_succ]
  go_wp2_with (go_at_call 31; refine (R0.out _).mono ?_; rintro e w2 ⟨rfl, rfl⟩)
  rw [rounds_succ]
  go_wp2_with (go_at_call 31; refine (R1.out _).mono ?_; rintro e w2 ⟨rfl, rfl⟩)
  rw [rounds_succ]
  go_wp2_with (go_at_call 31; refine (R2.out _).mono ?_; rintro e w2 ⟨⟨r0, rfl⟩, rfl⟩)
  refine bodyPost_ret (v := .tuple #[zeroT, .int .i64 5]) (by simp only [results, Tryd.results9]; go_simp; rfl) rfl ⟨_, _, _, _, _, rfl, ⟨rfl, rfl, rfl, rfl, rfl⟩, ?_⟩
  (repeat (first | with_reducible exact Below.refl _ _ | with_reducible refine bset ?_ (by first | (simp; done) | (simp; omega) | omega) _ | with_reducible refine balloc ?_ _ | with_reducible refine bdrewN ?_ _ | with_reducible refine bdrew ?_ | with_reducible refine bstep ?_ (by assumption)))
set_option maxHeartbeats 1000000 in
theorem readTooth_spec_d (s : ByteArray) (hs : s.size ≤ 1048576) (a b c d : List UInt8) (hx : splC 44 s.data.toList = [a, b, c, d]) (ha : a.length ≤ 1048577) (hb : b.length ≤ 1048577) (hc : c.length ≤ 1048577) (v0 v1 v2 : Nat) (hv0 : rdN a 0 = v0) (hv1 : rdN b 0 = v1) (hv2 : rdN c 0 = v2) (k0 : rdOk a = true) (k1 : rdOk b = true) (k2 : rdOk c = true) (hd : d.length ≤ 1048577) (k3 : nmOk d = false) (w : World) :
    Calls Tryd.prog 9 #[.string s] w (RtQ RtNo w) := by
  have HSP := Lib.hid (fun w => l01Split_row s 44 hs _ 4 hx rfl w)
  have R0 := Lib.hid (l01Read_ok ⟨a.toArray⟩ (by rw [data_size]; exact ha) k0)
  rw [show (⟨a.toArray⟩ : ByteArray).data.toList = a from rfl, hv0] at R0
  have R1 := Lib.hid (l01Read_ok ⟨b.toArray⟩ (by rw [data_size]; exact hb) k1)
  rw [show (⟨b.toArray⟩ : ByteArray).data.toList = b from rfl, hv1] at R1
  have R2 := Lib.hid (l01Read_ok ⟨c.toArray⟩ (by rw [data_size]; exact hc) k2)
  rw [show (⟨c.toArray⟩ : ByteArray).data.toList = c from rfl, hv2] at R2
  have hN := l01Number_any ⟨d.toArray⟩ (by rw [data_size]; exact hd)
  rw [show (⟨d.toArray⟩ : ByteArray).data.toList = d from rfl, k3] at hN
  have HNM := Lib.hid hN
  clear hN hd k3
  clear hx hs ha hb hc k0 k1 k2 hv0 hv1 hv2
  go_enter Tryd.func9, Tryd.ntmps9
  go_wp2_with (go_at_call 30; refine (HSP.out _).mono ?_; rintro e w1 ⟨A, k, rfl, hC, hb1⟩; obtain ⟨g, off, rfl, hg, c0, c1, c2, c3⟩ := row4 hC; clear hC; have hc1 := bc hb1; have hf1 := bf hb1; have hs1 := hb1.size; (try simp at hs1); (try have hz10 : w.heap.size < w1.heap.size := by omega); (try have hz11 : w.heap.size + 1 < w1.heap.size := by omega); (try have hz12 : w.heap.size + 1 + 1 < w1.heap.size := by omega); (try have hz13 : w.heap.size + 1 + 1 + 1 < w1.heap.size := by omega))
  refine wp_loop_rounds 4 ?_
  rw [rounds_succ]
  go_wp2_with (go_at_call 31; refine (R0.out _).mono ?_; rintro e w2 ⟨rfl, rfl⟩)
  rw [rounds_succ]
  go_wp2_with (go_at_call 31; refine (R1.out _).mono ?_; rintro e w2 ⟨rfl, rfl⟩)
  rw [rounds_succ]
  go_wp2_with (go_at_call 31; refine (R2.out _).mono ?_; rintro e w2 ⟨rfl, rfl⟩)
  rw [rounds_succ]
  go_wp2_with (go_at_call 32; refine (HNM.out _).mono ?_; rintro e w2 ⟨⟨r0, rfl, _⟩, rfl⟩)
  refine bodyPost_ret (v := .tuple #[zeroT, .int .i64 5]) (by simp only [results, Tryd.results9]; go_simp; rfl) rfl ⟨_, _, _, _, _, rfl, ⟨rfl, rfl, rfl, rfl, rfl⟩, ?_⟩
  (repeat (first | with_reducible exact Below.refl _ _ | with_reducible refine bset ?_ (by first | (simp; done) | (simp; omega) | omega) _ | with_reducible refine balloc ?_ _ | with_reducible refine bdrewN ?_ _ | with_reducible refine bdrew ?_ | with_reducible refine bstep ?_ (by assumption)))
set_option maxHeartbeats 1000000 in
theorem readTooth_spec_e (s : ByteArray) (hs : s.size ≤ 1048576) (a b c d : List UInt8) (hx : splC 44 s.data.toList = [a, b, c, d]) (ha : a.length ≤ 1048577) (hb : b.length ≤ 1048577) (hc : c.length ≤ 1048577) (v0 v1 v2 : Nat) (hv0 : rdN a 0 = v0) (hv1 : rdN b 0 = v1) (hv2 : rdN c 0 = v2) (k0 : rdOk a = true) (k1 : rdOk b = true) (k2 : rdOk c = true) (hd : d.length ≤ 1048577) (k3 : nmOk d = true) (k4 : 1 < nmV d 0) (w : World) :
    Calls Tryd.prog 9 #[.string s] w (RtQ RtNo w) := by
  have HSP := Lib.hid (fun w => l01Split_row s 44 hs _ 4 hx rfl w)
  have R0 := Lib.hid (l01Read_ok ⟨a.toArray⟩ (by rw [data_size]; exact ha) k0)
  rw [show (⟨a.toArray⟩ : ByteArray).data.toList = a from rfl, hv0] at R0
  have R1 := Lib.hid (l01Read_ok ⟨b.toArray⟩ (by rw [data_size]; exact hb) k1)
  rw [show (⟨b.toArray⟩ : ByteArray).data.toList = b from rfl, hv1] at R1
  have R2 := Lib.hid (l01Read_ok ⟨c.toArray⟩ (by rw [data_size]; exact hc) k2)
  rw [show (⟨c.toArray⟩ : ByteArray).data.toList = c from rfl, hv2] at R2
  have hN := l01Number_any ⟨d.toArray⟩ (by rw [data_size]; exact hd)
  rw [show (⟨d.toArray⟩ : ByteArray).data.toList = d from rfl, k3] at hN
  have HNM := Lib.hid hN
  obtain ⟨r, hr⟩ : ∃ r, nmV d 0 = r := ⟨_, rfl⟩
  rw [hr] at k4 HNM
  have x4 : (1 : Int) < (r : Int) := by omega
  clear hN hd k3 hr
  clear hx hs ha hb hc k0 k1 k2 hv0 hv1 hv2
  go_enter Tryd.func9, Tryd.ntmps9
  go_wp2_with (go_at_call 30; refine (HSP.out _).mono ?_; rintro e w1 ⟨A, k, rfl, hC, hb1⟩; obtain ⟨g, off, rfl, hg, c0, c1, c2, c3⟩ := row4 hC; clear hC; have hc1 := bc hb1; have hf1 := bf hb1; have hs1 := hb1.size; (try simp at hs1); (try have hz10 : w.heap.size < w1.heap.size := by omega); (try have hz11 : w.heap.size + 1 < w1.heap.size := by omega); (try have hz12 : w.heap.size + 1 + 1 < w1.heap.size := by omega); (try have hz13 : w.heap.size + 1 + 1 + 1 < w1.heap.size := by omega))
  refine wp_loop_rounds 4 ?_
  rw [rounds_succ]
  go_wp2_with (go_at_call 31; refine (R0.out _).mono ?_; rintro e w2 ⟨rfl, rfl⟩)
  rw [rounds_succ]
  go_wp2_with (go_at_call 31; refine (R1.out _).mono ?_; rintro e w2 ⟨rfl, rfl⟩)
  rw [rounds_succ]
  go_wp2_with (go_at_call 31; refine (R2.out _).mono ?_; rintro e w2 ⟨rfl, rfl⟩)
  rw [rounds_succ]
  go_wp2_with (go_at_call 32; refine (HNM.out _).mono ?_; rintro e w2 ⟨⟨r0, rfl, h0⟩, rfl⟩; obtain rfl := h0 rfl)
  refine bodyPost_ret (v := .tuple #[zeroT, .int .i64 5]) (by simp only [results, Tryd.results9]; go_simp; rfl) rfl ⟨_, _, _, _, _, rfl, ⟨rfl, rfl, rfl, rfl, rfl⟩, ?_⟩
  (repeat (first | with_reducible exact Below.refl _ _ | with_reducible refine bset ?_ (by first | (simp; done) | (simp; omega) | omega) _ | with_reducible refine balloc ?_ _ | with_reducible refine bdrewN ?_ _ | with_reducible refine bdrew ?_ | with_reducible refine bstep ?_ (by assumption)))
set_option maxHeartbeats 1000000 in
theorem readTooth_spec_f (s : ByteArray) (hs : s.size ≤ 1048576) (a b c d : List UInt8) (hx : splC 44 s.data.toList = [a, b, c, d]) (ha : a.length ≤ 1048577) (hb : b.length ≤ 1048577) (hc : c.length ≤ 1048577) (v0 v1 v2 : Nat) (hv0 : rdN a 0 = v0) (hv1 : rdN b 0 = v1) (hv2 : rdN c 0 = v2) (k0 : rdOk a = true) (k1 : rdOk b = true) (k2 : rdOk c = true) (hd : d.length ≤ 1048577) (k3 : nmOk d = true) (k4 : nmV d 0 ≤ 1) (k5 : okTooth v0 v1 v2 (nmV d 0) = false) (w : World) :
    Calls Tryd.prog 9 #[.string s] w (RtQ RtNo w) := by
  have HSP := Lib.hid (fun w => l01Split_row s 44 hs _ 4 hx rfl w)
  have R0 := Lib.hid (l01Read_ok ⟨a.toArray⟩ (by rw [data_size]; exact ha) k0)
  rw [show (⟨a.toArray⟩ : ByteArray).data.toList = a from rfl, hv0] at R0
  have R1 := Lib.hid (l01Read_ok ⟨b.toArray⟩ (by rw [data_size]; exact hb) k1)
  rw [show (⟨b.toArray⟩ : ByteArray).data.toList = b from rfl, hv1] at R1
  have R2 := Lib.hid (l01Read_ok ⟨c.toArray⟩ (by rw [data_size]; exact hc) k2)
  rw [show (⟨c.toArray⟩ : ByteArray).data.toList = c from rfl, hv2] at R2
  have hN := l01Number_any ⟨d.toArray⟩ (by rw [data_size]; exact hd)
  rw [show (⟨d.toArray⟩ : ByteArray).data.toList = d from rfl, k3] at hN
  have HNM := Lib.hid hN
  obtain ⟨r, hr⟩ : ∃ r, nmV d 0 = r := ⟨_, rfl⟩
  rw [hr] at k4 k5 HNM
  have x4 : (r : Int) ≤ 1 := by omega
  have x5 : (0 : Int) ≤ (r : Int) := by omega
  have K5 := Lib.hid k5
  clear hN hd k3 hr k5
  clear hx hs ha hb hc k0 k1 k2 hv0 hv1 hv2
  go_enter Tryd.func9, Tryd.ntmps9
  go_wp2_with (go_at_call 30; refine (HSP.out _).mono ?_; rintro e w1 ⟨A, k, rfl, hC, hb1⟩; obtain ⟨g, off, rfl, hg, c0, c1, c2, c3⟩ := row4 hC; clear hC; have hc1 := bc hb1; have hf1 := bf hb1; have hs1 := hb1.size; (try simp at hs1); (try have hz10 : w.heap.size < w1.heap.size := by omega); (try have hz11 : w.heap.size + 1 < w1.heap.size := by omega); (try have hz12 : w.heap.size + 1 + 1 < w1.heap.size := by omega); (try have hz13 : w.heap.size + 1 + 1 + 1 < w1.heap.size := by omega))
  refine wp_loop_rounds 4 ?_
  rw [rounds_succ]
  go_wp2_with (go_at_call 31; refine (R0.out _).mono ?_; rintro e w2 ⟨rfl, rfl⟩)
  rw [rounds_succ]
  go_wp2_with (go_at_call 31; refine (R1.out _).mono ?_; rintro e w2 ⟨rfl, rfl⟩)
  rw [rounds_succ]
  go_wp2_with (go_at_call 31; refine (R2.out _).mono ?_; rintro e w2 ⟨rfl, rfl⟩)
  rw [rounds_succ]
  go_wp2_with (first | (go_at_call 32; refine (HNM.out _).mono ?_; rintro e w2 ⟨⟨r0, rfl, h0⟩, rfl⟩; obtain rfl := h0 rfl) | (go_at_call 25; refine (okTooth_spec _ _ _ _ (by omega) (by omega) _).mono ?_; rintro e w3 ⟨rfl, hb3⟩; rw [K5.out]; have hc3 := bc hb3; have hf3 := bf hb3; have hs3 := hb3.size; (try simp at hs3); (try have hz30 : w.heap.size < w3.heap.size := by omega); (try have hz31 : w.heap.size + 1 < w3.heap.size := by omega); (try have hz32 : w.heap.size + 1 + 1 < w3.heap.size := by omega); (try have hz33 : w.heap.size + 1 + 1 + 1 < w3.heap.size := by omega); (try have hy320 : w2.heap.size < w3.heap.size := by omega); (try have hy321 : w2.heap.size + 1 < w3.heap.size := by omega); (have k30 : w3.cell? ⟨w.heap.size, 0, none⟩ = some (.float .f32 0) := (hc3 w.heap.size 0 (by first | omega | (simp; omega))).trans (by go_simp)); (have f30 := hf3 w.heap.size 0 (by first | omega | (simp; omega))); (have k31 : w3.cell? ⟨w.heap.size, 1, none⟩ = some (.float .f32 0) := (hc3 w.heap.size 1 (by first | omega | (simp; omega))).trans (by go_simp)); (have f31 := hf3 w.heap.size 1 (by first | omega | (simp; omega))); (have k32 : w3.cell? ⟨w.heap.size, 2, none⟩ = some (.float .f32 0) := (hc3 w.heap.size 2 (by first | omega | (simp; omega))).trans (by go_simp)); (have f32 := hf3 w.heap.size 2 (by first | omega | (simp; omega))); (have k33 : w3.cell? ⟨w.heap.size, 3, none⟩ = some (.int .i8 0) := (hc3 w.heap.size 3 (by first | omega | (simp; omega))).trans (by go_simp)); (have f33 := hf3 w.heap.size 3 (by first | omega | (simp; omega))); (have l30 := hc3 (w1.heap.size + 1) 0 (by first | omega | (simp; done) | (simp; omega))); (have l31 := hc3 (w1.heap.size + 1) 1 (by first | omega | (simp; done) | (simp; omega))); (have l32 := hc3 (w1.heap.size + 1) 2 (by first | omega | (simp; done) | (simp; omega))); (have l33 := hc3 (w1.heap.size + 1) 3 (by first | omega | (simp; done) | (simp; omega)))))
  refine bodyPost_ret (v := .tuple #[zeroT, .int .i64 5]) (by simp only [results, Tryd.results9]; go_simp; rfl) rfl ⟨_, _, _, _, _, rfl, ⟨rfl, rfl, rfl, rfl, rfl⟩, ?_⟩
  (repeat (first | with_reducible exact Below.refl _ _ | with_reducible refine bset ?_ (by first | (simp; done) | (simp; omega) | omega) _ | with_reducible refine balloc ?_ _ | with_reducible refine bdrewN ?_ _ | with_reducible refine bdrew ?_ | with_reducible refine bstep ?_ (by assumption)))
set_option maxHeartbeats 1000000 in
theorem readTooth_spec_y (s : ByteArray) (hs : s.size ≤ 1048576) (a b c d : List UInt8) (hx : splC 44 s.data.toList = [a, b, c, d]) (ha : a.length ≤ 1048577) (hb : b.length ≤ 1048577) (hc : c.length ≤ 1048577) (v0 v1 v2 : Nat) (hv0 : rdN a 0 = v0) (hv1 : rdN b 0 = v1) (hv2 : rdN c 0 = v2) (k0 : rdOk a = true) (k1 : rdOk b = true) (k2 : rdOk c = true) (hd : d.length ≤ 1048577) (k3 : nmOk d = true) (k4 : nmV d 0 ≤ 1) (k5 : okTooth v0 v1 v2 (nmV d 0) = true) (w : World) :
    Calls Tryd.prog 9 #[.string s] w (RtQ (fun h x y z k => h = v0 ∧ x = v1 ∧ y = v2 ∧ z = nmV d 0 ∧ k = 0) w) := by
  have HSP := Lib.hid (fun w => l01Split_row s 44 hs _ 4 hx rfl w)
  have R0 := Lib.hid (l01Read_ok ⟨a.toArray⟩ (by rw [data_size]; exact ha) k0)
  rw [show (⟨a.toArray⟩ : ByteArray).data.toList = a from rfl, hv0] at R0
  have R1 := Lib.hid (l01Read_ok ⟨b.toArray⟩ (by rw [data_size]; exact hb) k1)
  rw [show (⟨b.toArray⟩ : ByteArray).data.toList = b from rfl, hv1] at R1
  have R2 := Lib.hid (l01Read_ok ⟨c.toArray⟩ (by rw [data_size]; exact hc) k2)
  rw [show (⟨c.toArray⟩ : ByteArray).data.toList = c from rfl, hv2] at R2
  have hN := l01Number_any ⟨d.toArray⟩ (by rw [data_size]; exact hd)
  rw [show (⟨d.toArray⟩ : ByteArray).data.toList = d from rfl, k3] at hN
  have HNM := Lib.hid hN
  obtain ⟨r, hr⟩ : ∃ r, nmV d 0 = r := ⟨_, rfl⟩
  rw [hr] at k4 k5 HNM
  have x4 : (r : Int) ≤ 1 := by omega
  have x5 : (0 : Int) ≤ (r : Int) := by omega
  have K5 := Lib.hid k5
  have HRR := Lib.hid hr
  clear hN hd k3 hr k5
  clear hx hs ha hb hc k0 k1 k2 hv0 hv1 hv2
  go_enter Tryd.func9, Tryd.ntmps9
  go_wp2_with (go_at_call 30; refine (HSP.out _).mono ?_; rintro e w1 ⟨A, k, rfl, hC, hb1⟩; obtain ⟨g, off, rfl, hg, c0, c1, c2, c3⟩ := row4 hC; clear hC; have hc1 := bc hb1; have hf1 := bf hb1; have hs1 := hb1.size; (try simp at hs1); (try have hz10 : w.heap.size < w1.heap.size := by omega); (try have hz11 : w.heap.size + 1 < w1.heap.size := by omega); (try have hz12 : w.heap.size + 1 + 1 < w1.heap.size := by omega); (try have hz13 : w.heap.size + 1 + 1 + 1 < w1.heap.size := by omega))
  refine wp_loop_rounds 4 ?_
  rw [rounds_succ]
  go_wp2_with (go_at_call 31; refine (R0.out _).mono ?_; rintro e w2 ⟨rfl, rfl⟩)
  rw [rounds_succ]
  go_wp2_with (go_at_call 31; refine (R1.out _).mono ?_; rintro e w2 ⟨rfl, rfl⟩)
  rw [rounds_succ]
  go_wp2_with (go_at_call 31; refine (R2.out _).mono ?_; rintro e w2 ⟨rfl, rfl⟩)
  rw [rounds_succ]
  go_wp2_with (first | (go_at_call 32; refine (HNM.out _).mono ?_; rintro e w2 ⟨⟨r0, rfl, h0⟩, rfl⟩; obtain rfl := h0 rfl) | (go_at_call 25; refine (okTooth_spec _ _ _ _ (by omega) (by omega) _).mono ?_; rintro e w3 ⟨rfl, hb3⟩; rw [K5.out]; have hc3 := bc hb3; have hf3 := bf hb3; have hs3 := hb3.size; (try simp at hs3); (try have hz30 : w.heap.size < w3.heap.size := by omega); (try have hz31 : w.heap.size + 1 < w3.heap.size := by omega); (try have hz32 : w.heap.size + 1 + 1 < w3.heap.size := by omega); (try have hz33 : w.heap.size + 1 + 1 + 1 < w3.heap.size := by omega); (try have hy320 : w2.heap.size < w3.heap.size := by omega); (try have hy321 : w2.heap.size + 1 < w3.heap.size := by omega); (have k30 : w3.cell? ⟨w.heap.size, 0, none⟩ = some (.float .f32 0) := (hc3 w.heap.size 0 (by first | omega | (simp; omega))).trans (by go_simp)); (have f30 := hf3 w.heap.size 0 (by first | omega | (simp; omega))); (have k31 : w3.cell? ⟨w.heap.size, 1, none⟩ = some (.float .f32 0) := (hc3 w.heap.size 1 (by first | omega | (simp; omega))).trans (by go_simp)); (have f31 := hf3 w.heap.size 1 (by first | omega | (simp; omega))); (have k32 : w3.cell? ⟨w.heap.size, 2, none⟩ = some (.float .f32 0) := (hc3 w.heap.size 2 (by first | omega | (simp; omega))).trans (by go_simp)); (have f32 := hf3 w.heap.size 2 (by first | omega | (simp; omega))); (have k33 : w3.cell? ⟨w.heap.size, 3, none⟩ = some (.int .i8 0) := (hc3 w.heap.size 3 (by first | omega | (simp; omega))).trans (by go_simp)); (have f33 := hf3 w.heap.size 3 (by first | omega | (simp; omega))); (have l30 := hc3 (w1.heap.size + 1) 0 (by first | omega | (simp; done) | (simp; omega))); (have l31 := hc3 (w1.heap.size + 1) 1 (by first | omega | (simp; done) | (simp; omega))); (have l32 := hc3 (w1.heap.size + 1) 2 (by first | omega | (simp; done) | (simp; omega))); (have l33 := hc3 (w1.heap.size + 1) 3 (by first | omega | (simp; done) | (simp; omega)))))
  refine bodyPost_ret (v := .tuple #[.agg #[.float .f32 v0, .float .f32 v1, .float .f32 v2, .int .i8 (r : Int)], .int .i64 0]) (by simp only [results, Tryd.results9]; first | (go_simp; done) | (go_simp; rfl)) rfl ⟨_, _, _, _, _, rfl, ⟨rfl, rfl, rfl, by rw [HRR.out], rfl⟩, ?_⟩
  (repeat (first | with_reducible exact Below.refl _ _ | with_reducible refine bset ?_ (by first | (simp; done) | (simp; omega) | omega) _ | with_reducible refine balloc ?_ _ | with_reducible refine bdrewN ?_ _ | with_reducible refine bdrew ?_ | with_reducible refine bstep ?_ (by assumption)))
end Go.Proofs.YtljcjgliddhgkaaDoor
namespace Go.Proofs.YtljcjgliddhgkaaDoor
open Go.RowKit Ieee
open Go.Proofs.YtljcjgliddhgkaaDoorW.PrintWords
set_option maxRecDepth 100000
attribute [local irreducible] wpRel hexL cn
theorem split_row (c : UInt8) (s : ByteArray) (m : Int) (hs : s.size ≤ 1048576) (xs : List (List UInt8)) (n : Nat) (hx : splC c s.data.toList = xs) (hn : xs.length = n) (w : World) (hm : w.cell? ⟨2, 0, none⟩ = some (.int .i64 m)) :
    Calls Tryd.prog 33 #[.string s, .string ⟨#[c]⟩] w fun e w' => e = .returned (.slice (some ⟨w.heap.size, 0, none⟩) n n) ∧ Kd.C kS w' (some ⟨w.heap.size, 0, none⟩) n xs ∧ Below w.heap.size w w' := by
  subst hx
  subst hn
  exact split_any c s m w (by omega) hm
/-- The first three of four. -/
theorem row3of4 {w : World} {A : Option Addr} {a b c d : List UInt8} (h : Kd.C kS w A 4 [a, b, c, d]) : Kd.C kS w A 3 [a, b, c] := by
  refine ⟨rfl, by decide, fun _ => ?_⟩
  obtain ⟨ad, e, hh⟩ := h.2.2 (by decide)
  refine ⟨ad, e, fun j p hj => hh j p ?_⟩
  have hlt : j < 3 := by have := (List.getElem?_eq_some_iff.1 hj).1; simpa using this
  have hc : j = 0 ∨ j = 1 ∨ j = 2 := by omega
  rcases hc with rfl | rfl | rfl <;> simpa using hj
set_option maxHeartbeats 600000 in
theorem readTooth_impl_len (s : ByteArray) (m : Int) (hs : s.size ≤ 1048576) (xs : List (List UInt8)) (hx : splC 44 s.data.toList = xs) (h4 : xs.length ≠ 4) (w : World) (hm : w.cell? ⟨2, 0, none⟩ = some (.int .i64 m)) :
    Calls Tryd.prog 10 #[.string s] w (RtQ RtNo w) := by
  obtain ⟨n, hn⟩ : ∃ n, xs.length = n := ⟨_, rfl⟩
  have x1 : ((n : Int) != 4) = true := by simp; omega
  have HSP := Lib.hid (fun w => split_row 44 s m hs xs n hx hn w)
  have HM := Lib.hid ((bc (balloc (Below.refl _ _) (.cells #[.float .f32 0, .float .f32 0, .float .f32 0, .int .i8 0] 28)) 2 0 (World.block_lt_of_cell? w _ hm)).trans hm)
  clear hx hn h4 hs hm
  go_enter Tryd.func10, Tryd.ntmps10
  go_wp2_with (go_at_call 33; refine (HSP.out _ HM.out).mono ?_; rintro e w1 ⟨rfl, hC, hb1⟩; clear hC; have hc1 := bc hb1; have hf1 := bf hb1; have hs1 := hb1.size; (try simp at hs1); (try have hz10 : w.heap.size < w1.heap.size := by omega); (try have hz11 : w.heap.size + 1 < w1.heap.size := by omega); (try have hz12 : w.heap.size + 1 + 1 < w1.heap.size := by omega); (try have hz13 : w.heap.size + 1 + 1 + 1 < w1.heap.size := by omega))
  refine bodyPost_ret (v := .tuple #[zeroT, .int .i64 5]) (by simp only [results, Tryd.results10]; first | (go_simp; done) | (go_simp; rfl)) rfl ⟨_, _, _, _, _, rfl, ⟨rfl, rfl, rfl, rfl, rfl⟩, ?_⟩
  (repeat (first | with_reducible exact Below.refl _ _ | with_reducible refine bset ?_ (by first | (simp; done) | (simp; omega) | omega) _ | with_reducible refine balloc ?_ _ | with_reducible refine bdrewN ?_ _ | with_reducible refine bdrew ?_ | with_reducible refine bstep ?_ (by assumption)))
theorem nos3 (a b c : List UInt8) (hB : ∀ x ∈ [a, b, c], x.length ≤ 1048577) (A : Option Addr) (k : Nat) (w : World) (hA : Kd.C kS w A 3 [a, b, c]) : Calls Tryd.prog 34 #[.slice A 3 k] w (NosQ [a, b, c] w) :=
  numbersOf_any A k 3 [a, b, c] w rfl hA (by omega) hB
set_option maxHeartbeats 600000 in
theorem readTooth_impl_no (s : ByteArray) (m : Int) (hs : s.size ≤ 1048576) (a b c d : List UInt8) (hx : splC 44 s.data.toList = [a, b, c, d]) (hB : ∀ x ∈ [a, b, c], x.length ≤ 1048577) (h0 : [a, b, c].all rdOk = false) (w : World) (hm : w.cell? ⟨2, 0, none⟩ = some (.int .i64 m)) :
    Calls Tryd.prog 10 #[.string s] w (RtQ RtNo w) := by
  have HSP := Lib.hid (fun w => split_row 44 s m hs _ 4 hx rfl w)
  have HM := Lib.hid ((bc (balloc (Below.refl _ _) (.cells #[.float .f32 0, .float .f32 0, .float .f32 0, .int .i8 0] 28)) 2 0 (World.block_lt_of_cell? w _ hm)).trans hm)
  have HN := Lib.hid (nos3 a b c hB)
  have H0 := Lib.hid h0
  clear hx hs hm hB h0
  go_enter Tryd.func10, Tryd.ntmps10
  go_wp2_with (first | (go_at_call 33; refine (HSP.out _ HM.out).mono ?_; rintro e w1 ⟨rfl, hC, hb1⟩; (have e1 : ∀ o, (w.alloc o).heap.size = w.heap.size + 1 := fun o => by simp); rw [e1] at hC; have HC := Lib.hid hC; clear hC e1; have hc1 := bc hb1; have hf1 := bf hb1; have hs1 := hb1.size; (try simp at hs1); (try have hz10 : w.heap.size < w1.heap.size := by omega); (try have hz11 : w.heap.size + 1 < w1.heap.size := by omega); (try have hz12 : w.heap.size + 1 + 1 < w1.heap.size := by omega); (try have hz13 : w.heap.size + 1 + 1 + 1 < w1.heap.size := by omega)) | (go_at_call 34; refine (HN.out _ _ _ (row3of4 HC.out)).mono ?_; rintro e w2 ⟨⟨v, rfl, _⟩, hb2⟩; rw [H0.out]; have hc2 := bc hb2; have hf2 := bf hb2; have hs2 := hb2.size; (try simp at hs2); (try have hz20 : w.heap.size < w2.heap.size := by omega); (try have hz21 : w.heap.size + 1 < w2.heap.size := by omega); (try have hz22 : w.heap.size + 1 + 1 < w2.heap.size := by omega); (try have hz23 : w.heap.size + 1 + 1 + 1 < w2.heap.size := by omega)))
  refine bodyPost_ret (v := .tuple #[zeroT, .int .i64 5]) (by simp only [results, Tryd.results10]; first | (go_simp; done) | (go_simp; rfl)) rfl ⟨_, _, _, _, _, rfl, ⟨rfl, rfl, rfl, rfl, rfl⟩, ?_⟩
  (repeat (first | with_reducible exact Below.refl _ _ | with_reducible refine bset ?_ (by first | (simp; done) | (simp; omega) | omega) _ | with_reducible refine balloc ?_ _ | with_reducible refine bdrewN ?_ _ | with_reducible refine bdrew ?_ | with_reducible refine bstep ?_ (by assumption)))
/-- Three numbers of a row. -/
theorem rowF3 {w : World} {A : Option Addr} {x y z : Nat} (h : Kd.C kf w A 3 [x, y, z]) :
    ∃ g off a b c, A = some ⟨g, off, none⟩ ∧ g < w.heap.size ∧ w.cell? ⟨g, off, none⟩ = some (.float .f32 a) ∧ w.cell? ⟨g, off + 1, none⟩ = some (.float .f32 b) ∧ w.cell? ⟨g, off + 2, none⟩ = some (.float .f32 c) ∧ FV a x ∧ FV b y ∧ FV c z := by
  obtain ⟨g, off, a, e, hb, h0, f0⟩ := at_kf h 0 (by decide)
  obtain ⟨g', off', b, e', _, h1, f1⟩ := at_kf h 1 (by decide)
  obtain ⟨g'', off'', c, e'', _, h2, f2⟩ := at_kf h 2 (by decide)
  subst e
  injection e' with e'; injection e' with e1 e2; subst e1 e2
  injection e'' with e''; injection e'' with e1 e2; subst e1 e2
  exact ⟨g, off, a, b, c, rfl, hb, h0, h1, h2, f0, f1, f2⟩
set_option maxHeartbeats 1000000 in
theorem readTooth_impl_ok (sd : Int) (s : ByteArray) (m : Int) (hs : s.size ≤ 1048576) (a b c d : List UInt8) (hx : splC 44 s.data.toList = [a, b, c, d]) (hB : ∀ x ∈ [a, b, c], x.length ≤ 1048577) (h0 : [a, b, c].all rdOk = true) (hd : sd = if d = [49] then 1 else 0)
    (w : World) (hm : w.cell? ⟨2, 0, none⟩ = some (.int .i64 m)) :
    Calls Tryd.prog 10 #[.string s] w (RtQ (fun h x y z k => (h < 4294967296 ∧ x < 4294967296 ∧ y < 4294967296) ∧ ∃ h' x' y', cn h' = rdN a 0 ∧ cn x' = rdN b 0 ∧ cn y' = rdN c 0 ∧ ((txV h' x' y' sd = s.data.toList ∧ h = h' ∧ x = x' ∧ y = y' ∧ z = sd ∧ k = 0) ∨ (txV h' x' y' sd ≠ s.data.toList ∧ RtNo h x y z k))) w) := by
  have HSP := Lib.hid (fun w => split_row 44 s m hs _ 4 hx rfl w)
  have HM := Lib.hid ((bc (balloc (Below.refl _ _) (.cells #[.float .f32 0, .float .f32 0, .float .f32 0, .int .i8 0] 28)) 2 0 (World.block_lt_of_cell? w _ hm)).trans hm)
  have HN := Lib.hid (nos3 a b c hB)
  have H0 := Lib.hid h0
  clear hx hs hm hB h0
  go_enter Tryd.func10, Tryd.ntmps10
  go_wp2_with fail
  go_at_call 33
  refine (HSP.out _ HM.out).mono ?_
  rintro e w1 ⟨rfl, hC, hb1⟩
  have e0 : ∀ o, (w.alloc o).heap.size = w.heap.size + 1 := fun o => by simp
  rw [e0] at hC
  clear e0
  obtain ⟨g1, o1, e1, hg1, _, _, _, c3⟩ := row4 hC
  injection e1 with e1; injection e1 with e1 e2; subst e1 e2
  have HC := Lib.hid hC
  clear hC
  have hc1 := bc hb1; have hf1 := bf hb1; have hs1 := hb1.size; (try simp at hs1); (try have hz10 : w.heap.size < w1.heap.size := by omega); (try have hz11 : w.heap.size + 1 < w1.heap.size := by omega); (try have hz12 : w.heap.size + 1 + 1 < w1.heap.size := by omega); (try have hz13 : w.heap.size + 1 + 1 + 1 < w1.heap.size := by omega)
  go_wp2_with fail
  go_at_call 34
  refine (HN.out _ _ _ (row3of4 HC.out)).mono ?_
  rintro e w2 ⟨⟨v, rfl, hF⟩, hb2⟩
  obtain ⟨A, k, hv, _, hK⟩ := (hF H0.out).reads
  obtain ⟨g, off, h', x', y', rfl, hg, f0, f1, f2, F0, F1, F2⟩ := rowF3 hK
  have hv' : v = .slice (some ⟨g, off, none⟩) 3 k := hv
  subst hv'
  rw [H0.out]
  have HF := Lib.hid (And.intro F0 (And.intro F1 F2))
  clear hF hv hK F0 F1 F2
  have hc2 := bc hb2; have hf2 := bf hb2; have hs2 := hb2.size; (try simp at hs2); (try have hz20 : w.heap.size < w2.heap.size := by omega); (try have hz21 : w.heap.size + 1 < w2.heap.size := by omega); (try have hz22 : w.heap.size + 1 + 1 < w2.heap.size := by omega); (try have hz23 : w.heap.size + 1 + 1 + 1 < w2.heap.size := by omega)
  go_wp2
  have d3 := (hc2 (w.heap.size + 1) 3 hg1).trans c3
  go_region_held3 (fun w' => w'.cell? ⟨g, off, none⟩ = some (.float .f32 h') ∧ w'.cell? ⟨g, off + 1, none⟩ = some (.float .f32 x') ∧ w'.cell? ⟨g, off + 2, none⟩ = some (.float .f32 y')) (go_keep) (fail)
  by_cases h49 : d = [49]
  · subst h49
    rw [if_pos rfl] at hd
    subst hd
    by_cases htx : txV h' x' y' 1 = s.data.toList
    · have HTX := Lib.hid htx
      obtain ⟨tx, HT⟩ : ∃ tx, txV h' x' y' 1 = tx := ⟨_, rfl⟩
      have hq : (tx == s.toList) = true := by rw [Go.Lib.toList_data]; simpa [HT] using htx
      have hq2 : (tx != s.toList) = false := by rw [Go.Lib.toList_data]; simpa [HT] using htx
      clear htx
      go_wp2_with (go_at_call 8; refine (toothText_impl h' x' y' 1 HF.out.1.2 HF.out.2.1.2 HF.out.2.2.2 (by decide) (by decide) _).mono ?_; rintro e w3 ⟨rfl, hb3⟩; rw [HT]; have hc3 := bc hb3; have hf3 := bf hb3; have hs3 := hb3.size; (try simp at hs3); (try have hz30 : w.heap.size < w3.heap.size := by omega); (try have hz31 : w.heap.size + 1 < w3.heap.size := by omega); (try have hz32 : w.heap.size + 1 + 1 < w3.heap.size := by omega); (try have hz33 : w.heap.size + 1 + 1 + 1 < w3.heap.size := by omega); (try have hy320 : w2.heap.size < w3.heap.size := by omega); (try have hy321 : w2.heap.size + 1 < w3.heap.size := by omega); (have k30 : w3.cell? ⟨w.heap.size, 0, none⟩ = some (.float .f32 0) := (hc3 w.heap.size 0 (by first | omega | (simp; omega))).trans (by go_simp)); (have f30 := hf3 w.heap.size 0 (by first | omega | (simp; omega))); (have k31 : w3.cell? ⟨w.heap.size, 1, none⟩ = some (.float .f32 0) := (hc3 w.heap.size 1 (by first | omega | (simp; omega))).trans (by go_simp)); (have f31 := hf3 w.heap.size 1 (by first | omega | (simp; omega))); (have k32 : w3.cell? ⟨w.heap.size, 2, none⟩ = some (.float .f32 0) := (hc3 w.heap.size 2 (by first | omega | (simp; omega))).trans (by go_simp)); (have f32 := hf3 w.heap.size 2 (by first | omega | (simp; omega))); (have k33 : w3.cell? ⟨w.heap.size, 3, none⟩ = some (.int .i8 0) := (hc3 w.heap.size 3 (by first | omega | (simp; omega))).trans (by go_simp)); (have f33 := hf3 w.heap.size 3 (by first | omega | (simp; omega))); (have l30 : w3.cell? ⟨w2.heap.size, 0, none⟩ = some (.float .f32 h') := (hc3 w2.heap.size 0 (by first | omega | (simp; done) | (simp; omega))).trans (by go_simp)); (have l31 : w3.cell? ⟨w2.heap.size, 1, none⟩ = some (.float .f32 x') := (hc3 w2.heap.size 1 (by first | omega | (simp; done) | (simp; omega))).trans (by go_simp)); (have l32 : w3.cell? ⟨w2.heap.size, 2, none⟩ = some (.float .f32 y') := (hc3 w2.heap.size 2 (by first | omega | (simp; done) | (simp; omega))).trans (by go_simp)); (have l33 : w3.cell? ⟨w2.heap.size, 3, none⟩ = some (.int .i8 1) := (hc3 w2.heap.size 3 (by first | omega | (simp; done) | (simp; omega))).trans (by go_simp)))
      refine bodyPost_ret (v := .tuple #[.agg #[.float .f32 h', .float .f32 x', .float .f32 y', .int .i8 1], .int .i64 0]) (by simp only [results, Tryd.results10]; first | (go_simp; done) | (go_simp; rfl)) rfl ⟨_, _, _, _, _, rfl, ⟨⟨HF.out.1.2, HF.out.2.1.2, HF.out.2.2.2⟩, h', x', y', HF.out.1.1, HF.out.2.1.1, HF.out.2.2.1, .inl ⟨HTX.out, rfl, rfl, rfl, rfl, rfl⟩⟩, ?_⟩
      (repeat (first | with_reducible exact Below.refl _ _ | with_reducible refine bset ?_ (by first | (simp; done) | (simp; omega) | omega) _ | with_reducible refine balloc ?_ _ | with_reducible refine bdrewN ?_ _ | with_reducible refine bdrew ?_ | with_reducible refine bstep ?_ (by assumption)))
    · have HTX := Lib.hid htx
      obtain ⟨tx, HT⟩ : ∃ tx, txV h' x' y' 1 = tx := ⟨_, rfl⟩
      have hq : (tx == s.toList) = false := by rw [Go.Lib.toList_data]; simpa [HT] using htx
      have hq2 : (tx != s.toList) = true := by rw [Go.Lib.toList_data]; simpa [HT] using htx
      clear htx
      go_wp2_with (go_at_call 8; refine (toothText_impl h' x' y' 1 HF.out.1.2 HF.out.2.1.2 HF.out.2.2.2 (by decide) (by decide) _).mono ?_; rintro e w3 ⟨rfl, hb3⟩; rw [HT]; have hc3 := bc hb3; have hf3 := bf hb3; have hs3 := hb3.size; (try simp at hs3); (try have hz30 : w.heap.size < w3.heap.size := by omega); (try have hz31 : w.heap.size + 1 < w3.heap.size := by omega); (try have hz32 : w.heap.size + 1 + 1 < w3.heap.size := by omega); (try have hz33 : w.heap.size + 1 + 1 + 1 < w3.heap.size := by omega); (try have hy320 : w2.heap.size < w3.heap.size := by omega); (try have hy321 : w2.heap.size + 1 < w3.heap.size := by omega); (have k30 : w3.cell? ⟨w.heap.size, 0, none⟩ = some (.float .f32 0) := (hc3 w.heap.size 0 (by first | omega | (simp; omega))).trans (by go_simp)); (have f30 := hf3 w.heap.size 0 (by first | omega | (simp; omega))); (have k31 : w3.cell? ⟨w.heap.size, 1, none⟩ = some (.float .f32 0) := (hc3 w.heap.size 1 (by first | omega | (simp; omega))).trans (by go_simp)); (have f31 := hf3 w.heap.size 1 (by first | omega | (simp; omega))); (have k32 : w3.cell? ⟨w.heap.size, 2, none⟩ = some (.float .f32 0) := (hc3 w.heap.size 2 (by first | omega | (simp; omega))).trans (by go_simp)); (have f32 := hf3 w.heap.size 2 (by first | omega | (simp; omega))); (have k33 : w3.cell? ⟨w.heap.size, 3, none⟩ = some (.int .i8 0) := (hc3 w.heap.size 3 (by first | omega | (simp; omega))).trans (by go_simp)); (have f33 := hf3 w.heap.size 3 (by first | omega | (simp; omega))); (have l30 : w3.cell? ⟨w2.heap.size, 0, none⟩ = some (.float .f32 h') := (hc3 w2.heap.size 0 (by first | omega | (simp; done) | (simp; omega))).trans (by go_simp)); (have l31 : w3.cell? ⟨w2.heap.size, 1, none⟩ = some (.float .f32 x') := (hc3 w2.heap.size 1 (by first | omega | (simp; done) | (simp; omega))).trans (by go_simp)); (have l32 : w3.cell? ⟨w2.heap.size, 2, none⟩ = some (.float .f32 y') := (hc3 w2.heap.size 2 (by first | omega | (simp; done) | (simp; omega))).trans (by go_simp)); (have l33 : w3.cell? ⟨w2.heap.size, 3, none⟩ = some (.int .i8 1) := (hc3 w2.heap.size 3 (by first | omega | (simp; done) | (simp; omega))).trans (by go_simp)))
      refine bodyPost_ret (v := .tuple #[zeroT, .int .i64 5]) (by simp only [results, Tryd.results10]; first | (go_simp; done) | (go_simp; rfl)) rfl ⟨_, _, _, _, _, rfl, ⟨⟨by decide, by decide, by decide⟩, h', x', y', HF.out.1.1, HF.out.2.1.1, HF.out.2.2.1, .inr ⟨HTX.out, rfl, rfl, rfl, rfl, rfl⟩⟩, ?_⟩
      (repeat (first | with_reducible exact Below.refl _ _ | with_reducible refine bset ?_ (by first | (simp; done) | (simp; omega) | omega) _ | with_reducible refine balloc ?_ _ | with_reducible refine bdrewN ?_ _ | with_reducible refine bdrew ?_ | with_reducible refine bstep ?_ (by assumption)))
  · rw [if_neg h49] at hd
    subst hd
    have hne : (d == [49]) = false := by simpa using h49
    have hne2 : (d == (⟨#[49]⟩ : ByteArray).toList) = false := by rw [Go.Lib.toList_data]; exact hne
    clear h49
    by_cases htx : txV h' x' y' 0 = s.data.toList
    · have HTX := Lib.hid htx
      obtain ⟨tx, HT⟩ : ∃ tx, txV h' x' y' 0 = tx := ⟨_, rfl⟩
      have hq : (tx == s.toList) = true := by rw [Go.Lib.toList_data]; simpa [HT] using htx
      have hq2 : (tx != s.toList) = false := by rw [Go.Lib.toList_data]; simpa [HT] using htx
      clear htx
      go_wp2_with (go_at_call 8; refine (toothText_impl h' x' y' 0 HF.out.1.2 HF.out.2.1.2 HF.out.2.2.2 (by decide) (by decide) _).mono ?_; rintro e w3 ⟨rfl, hb3⟩; rw [HT]; have hc3 := bc hb3; have hf3 := bf hb3; have hs3 := hb3.size; (try simp at hs3); (try have hz30 : w.heap.size < w3.heap.size := by omega); (try have hz31 : w.heap.size + 1 < w3.heap.size := by omega); (try have hz32 : w.heap.size + 1 + 1 < w3.heap.size := by omega); (try have hz33 : w.heap.size + 1 + 1 + 1 < w3.heap.size := by omega); (try have hy320 : w2.heap.size < w3.heap.size := by omega); (try have hy321 : w2.heap.size + 1 < w3.heap.size := by omega); (have k30 : w3.cell? ⟨w.heap.size, 0, none⟩ = some (.float .f32 0) := (hc3 w.heap.size 0 (by first | omega | (simp; omega))).trans (by go_simp)); (have f30 := hf3 w.heap.size 0 (by first | omega | (simp; omega))); (have k31 : w3.cell? ⟨w.heap.size, 1, none⟩ = some (.float .f32 0) := (hc3 w.heap.size 1 (by first | omega | (simp; omega))).trans (by go_simp)); (have f31 := hf3 w.heap.size 1 (by first | omega | (simp; omega))); (have k32 : w3.cell? ⟨w.heap.size, 2, none⟩ = some (.float .f32 0) := (hc3 w.heap.size 2 (by first | omega | (simp; omega))).trans (by go_simp)); (have f32 := hf3 w.heap.size 2 (by first | omega | (simp; omega))); (have k33 : w3.cell? ⟨w.heap.size, 3, none⟩ = some (.int .i8 0) := (hc3 w.heap.size 3 (by first | omega | (simp; omega))).trans (by go_simp)); (have f33 := hf3 w.heap.size 3 (by first | omega | (simp; omega))); (have l30 : w3.cell? ⟨w2.heap.size, 0, none⟩ = some (.float .f32 h') := (hc3 w2.heap.size 0 (by first | omega | (simp; done) | (simp; omega))).trans (by go_simp)); (have l31 : w3.cell? ⟨w2.heap.size, 1, none⟩ = some (.float .f32 x') := (hc3 w2.heap.size 1 (by first | omega | (simp; done) | (simp; omega))).trans (by go_simp)); (have l32 : w3.cell? ⟨w2.heap.size, 2, none⟩ = some (.float .f32 y') := (hc3 w2.heap.size 2 (by first | omega | (simp; done) | (simp; omega))).trans (by go_simp)); (have l33 : w3.cell? ⟨w2.heap.size, 3, none⟩ = some (.int .i8 0) := (hc3 w2.heap.size 3 (by first | omega | (simp; done) | (simp; omega))).trans (by go_simp)))
      refine bodyPost_ret (v := .tuple #[.agg #[.float .f32 h', .float .f32 x', .float .f32 y', .int .i8 0], .int .i64 0]) (by simp only [results, Tryd.results10]; first | (go_simp; done) | (go_simp; rfl)) rfl ⟨_, _, _, _, _, rfl, ⟨⟨HF.out.1.2, HF.out.2.1.2, HF.out.2.2.2⟩, h', x', y', HF.out.1.1, HF.out.2.1.1, HF.out.2.2.1, .inl ⟨HTX.out, rfl, rfl, rfl, rfl, rfl⟩⟩, ?_⟩
      (repeat (first | with_reducible exact Below.refl _ _ | with_reducible refine bset ?_ (by first | (simp; done) | (simp; omega) | omega) _ | with_reducible refine balloc ?_ _ | with_reducible refine bdrewN ?_ _ | with_reducible refine bdrew ?_ | with_reducible refine bstep ?_ (by assumption)))
    · have HTX := Lib.hid htx
      obtain ⟨tx, HT⟩ : ∃ tx, txV h' x' y' 0 = tx := ⟨_, rfl⟩
      have hq : (tx == s.toList) = false := by rw [Go.Lib.toList_data]; simpa [HT] using htx
      have hq2 : (tx != s.toList) = true := by rw [Go.Lib.toList_data]; simpa [HT] using htx
      clear htx
      go_wp2_with (go_at_call 8; refine (toothText_impl h' x' y' 0 HF.out.1.2 HF.out.2.1.2 HF.out.2.2.2 (by decide) (by decide) _).mono ?_; rintro e w3 ⟨rfl, hb3⟩; rw [HT]; have hc3 := bc hb3; have hf3 := bf hb3; have hs3 := hb3.size; (try simp at hs3); (try have hz30 : w.heap.size < w3.heap.size := by omega); (try have hz31 : w.heap.size + 1 < w3.heap.size := by omega); (try have hz32 : w.heap.size + 1 + 1 < w3.heap.size := by omega); (try have hz33 : w.heap.size + 1 + 1 + 1 < w3.heap.size := by omega); (try have hy320 : w2.heap.size < w3.heap.size := by omega); (try have hy321 : w2.heap.size + 1 < w3.heap.size := by omega); (have k30 : w3.cell? ⟨w.heap.size, 0, none⟩ = some (.float .f32 0) := (hc3 w.heap.size 0 (by first | omega | (simp; omega))).trans (by go_simp)); (have f30 := hf3 w.heap.size 0 (by first | omega | (simp; omega))); (have k31 : w3.cell? ⟨w.heap.size, 1, none⟩ = some (.float .f32 0) := (hc3 w.heap.size 1 (by first | omega | (simp; omega))).trans (by go_simp)); (have f31 := hf3 w.heap.size 1 (by first | omega | (simp; omega))); (have k32 : w3.cell? ⟨w.heap.size, 2, none⟩ = some (.float .f32 0) := (hc3 w.heap.size 2 (by first | omega | (simp; omega))).trans (by go_simp)); (have f32 := hf3 w.heap.size 2 (by first | omega | (simp; omega))); (have k33 : w3.cell? ⟨w.heap.size, 3, none⟩ = some (.int .i8 0) := (hc3 w.heap.size 3 (by first | omega | (simp; omega))).trans (by go_simp)); (have f33 := hf3 w.heap.size 3 (by first | omega | (simp; omega))); (have l30 : w3.cell? ⟨w2.heap.size, 0, none⟩ = some (.float .f32 h') := (hc3 w2.heap.size 0 (by first | omega | (simp; done) | (simp; omega))).trans (by go_simp)); (have l31 : w3.cell? ⟨w2.heap.size, 1, none⟩ = some (.float .f32 x') := (hc3 w2.heap.size 1 (by first | omega | (simp; done) | (simp; omega))).trans (by go_simp)); (have l32 : w3.cell? ⟨w2.heap.size, 2, none⟩ = some (.float .f32 y') := (hc3 w2.heap.size 2 (by first | omega | (simp; done) | (simp; omega))).trans (by go_simp)); (have l33 : w3.cell? ⟨w2.heap.size, 3, none⟩ = some (.int .i8 0) := (hc3 w2.heap.size 3 (by first | omega | (simp; done) | (simp; omega))).trans (by go_simp)))
      refine bodyPost_ret (v := .tuple #[zeroT, .int .i64 5]) (by simp only [results, Tryd.results10]; first | (go_simp; done) | (go_simp; rfl)) rfl ⟨_, _, _, _, _, rfl, ⟨⟨by decide, by decide, by decide⟩, h', x', y', HF.out.1.1, HF.out.2.1.1, HF.out.2.2.1, .inr ⟨HTX.out, rfl, rfl, rfl, rfl, rfl⟩⟩, ?_⟩
      (repeat (first | with_reducible exact Below.refl _ _ | with_reducible refine bset ?_ (by first | (simp; done) | (simp; omega) | omega) _ | with_reducible refine balloc ?_ _ | with_reducible refine bdrewN ?_ _ | with_reducible refine bdrew ?_ | with_reducible refine bstep ?_ (by assumption)))
end Go.Proofs.YtljcjgliddhgkaaDoor
namespace Go.Proofs.YtljcjgliddhgkaaDoor
open Go.RowKit Ieee
open Go.Proofs.YtljcjgliddhgkaaDoorW.PrintWords
set_option maxRecDepth 100000
attribute [local irreducible] wpRel
theorem fin_cnR (a b r : Nat) : fin a b (cn r) = fin a b r := by
  have h1 : fle a (cn r) = fle a r := by rw [← fle_cn a (cn r), cn_cn, fle_cn]
  have h2 : fle (cn r) b = fle r b := by rw [← fle_cn (cn r) b, cn_cn, fle_cn]
  unfold fin
  rw [h1, h2]
theorem okTooth_cnR (h x y : Nat) (s : Int) : okTooth (cn h) (cn x) (cn y) s = okTooth h x y s := by
  unfold okTooth part
  rw [fin_cnR, fin_cnR, fin_cnR]
theorem rdOk_hex {l : List UInt8} (h : rdOk l = true) : hexL (rdN l 0) = l := by
  unfold rdOk at h
  simp only [Bool.and_eq_true, decide_eq_true_eq] at h
  exact (hexL_rdN h.1.1 h.1.2).1
theorem join4 (l a b c d : List UInt8) (h : splC 44 l = [a, b, c, d]) : l = a ++ 44 :: b ++ 44 :: c ++ 44 :: d := by
  have := join_splC 44 l
  rw [h] at this
  rw [← this]
  simp [List.intercalate, List.intersperse]
/-- When the text made of what was read is the text that was read. -/
theorem rt_agree {l a b c d : List UInt8} (hx : splC 44 l = [a, b, c, d]) (ka : rdOk a = true) (kb : rdOk b = true) (kc : rdOk c = true) {h x y : Nat} (eh : cn h = rdN a 0) (ex : cn x = rdN b 0) (ey : cn y = rdN c 0) {sd : Int} (hd : sd = if d = [49] then 1 else 0) :
    txV h x y sd = l ↔ (d = [48] ∨ d = [49]) ∧ okTooth (rdN a 0) (rdN b 0) (rdN c 0) sd = true := by
  have hl := join4 l a b c d hx
  rw [← eh, ← ex, ← ey, okTooth_cnR]
  unfold txV
  cases hk : okTooth h x y sd
  · simp only [Bool.false_eq_true, if_false, and_false, iff_false]
    rw [hl]
    intro e
    have := congrArg List.length e
    simp at this
  · rw [if_pos rfl]
    simp only [and_true]
    unfold txT
    rw [eh, ex, ey, rdOk_hex ka, rdOk_hex kb, rdOk_hex kc, hl]
    constructor
    · intro e
      have e2 : a ++ 44 :: b ++ 44 :: c ++ 44 :: [dS sd] = a ++ 44 :: b ++ 44 :: c ++ 44 :: d := e
      have e3 := List.append_cancel_left e2
      injection e3 with _ e4
      by_cases h49 : d = [49]
      · exact .inr h49
      · rw [if_neg h49] at hd
        subst hd
        exact .inl e4.symm
    · rintro (rfl | rfl)
      · have : sd = 0 := by rw [hd]; rfl
        subst this; rfl
      · have : sd = 1 := by rw [hd]; rfl
        subst this; rfl
def Rt5 (H X Y : Nat) (z k : Int) (h x y : Nat) (s k' : Int) : Prop := cn h = H ∧ cn x = X ∧ cn y = Y ∧ s = z ∧ k' = k
theorem cn_0R : cn 0 = 0 := by decide
theorem RtQ.imp {P P' : Nat → Nat → Nat → Int → Int → Prop} (hp : ∀ h x y s k, P h x y s k → P' h x y s k) {w : World} {e : Ending} {w' : World} (h : RtQ P w e w') : RtQ P' w e w' := by
  obtain ⟨h, x, y, s, k, he, hP, hb⟩ := h
  exact ⟨h, x, y, s, k, he, hp _ _ _ _ _ hP, hb⟩
theorem Rt5.no (h x y : Nat) (s k : Int) : RtNo h x y s k → Rt5 0 0 0 0 5 h x y s k := by
  rintro ⟨rfl, rfl, rfl, rfl, rfl⟩
  exact ⟨cn_0R, cn_0R, cn_0R, rfl, rfl⟩
theorem splC_lens (c : UInt8) : ∀ l : List UInt8, ∀ x ∈ splC c l, x.length ≤ l.length := by
  intro l
  induction l with
  | nil => intro x hx; simp [splC] at hx; subst hx; simp
  | cons b l ih =>
    intro x hx
    obtain ⟨h, t, e⟩ := splC_cons c l
    by_cases hb : b = c
    · rw [splC, if_pos hb] at hx
      rcases List.mem_cons.1 hx with rfl | hx
      · simp
      · have := ih x hx; simp; omega
    · rw [splC, if_neg hb, e] at hx
      rcases List.mem_cons.1 hx with rfl | hx
      · have := ih h (by rw [e]; exact List.mem_cons_self)
        simp [List.headD]; omega
      · have := ih x (by rw [e]; exact List.mem_cons_of_mem _ hx)
        simp; omega
/-- Both sides give one and the same. -/
theorem readTooth_both (s : ByteArray) (m : Int) (hs : s.size ≤ 1048576) : ∃ (H X Y : Nat) (z k : Int),
    (∀ w, Calls Tryd.prog 9 #[.string s] w (RtQ (Rt5 H X Y z k) w)) ∧
    (∀ w : World, w.cell? ⟨2, 0, none⟩ = some (.int .i64 m) → Calls Tryd.prog 10 #[.string s] w (RtQ (Rt5 H X Y z k) w)) := by
  obtain ⟨xs, hx⟩ : ∃ xs, splC 44 s.data.toList = xs := ⟨_, rfl⟩
  have hln : s.data.toList.length = s.size := rfl
  have hB : ∀ x ∈ xs, x.length ≤ 1048577 := fun x h => by
    have := splC_lens 44 s.data.toList x (by rw [hx]; exact h)
    omega
  by_cases h4 : xs.length = 4
  · match xs, h4, hx, hB with
    | [a, b, c, d], _, hx, hB =>
      have ha := hB a (by simp)
      have hb := hB b (by simp)
      have hc := hB c (by simp)
      have hd := hB d (by simp)
      have hB3 : ∀ x ∈ [a, b, c], x.length ≤ 1048577 := fun x hm => hB x (by simp only [List.mem_cons, List.not_mem_nil, or_false] at hm ⊢; rcases hm with rfl | rfl | rfl <;> simp)
      have bad : (∀ w, Calls Tryd.prog 9 #[.string s] w (RtQ RtNo w)) → [a, b, c].all rdOk = false → ∃ (H X Y : Nat) (z k : Int),
          (∀ w, Calls Tryd.prog 9 #[.string s] w (RtQ (Rt5 H X Y z k) w)) ∧
          (∀ w : World, w.cell? ⟨2, 0, none⟩ = some (.int .i64 m) → Calls Tryd.prog 10 #[.string s] w (RtQ (Rt5 H X Y z k) w)) := fun h1 h2 =>
        ⟨0, 0, 0, 0, 5, fun w => (h1 w).mono fun _ _ h => h.imp Rt5.no, fun w hm => (readTooth_impl_no s m hs a b c d hx hB3 h2 w hm).mono fun _ _ h => h.imp Rt5.no⟩
      cases ka : rdOk a
      · exact bad (fun w => readTooth_spec_w0 s hs a b c d hx ha ka w) (by simp [ka])
      cases kb : rdOk b
      · exact bad (fun w => readTooth_spec_w1 s hs a b c d hx ha hb ka kb w) (by simp [ka, kb])
      cases kc : rdOk c
      · exact bad (fun w => readTooth_spec_w2 s hs a b c d hx ha hb hc ka kb kc w) (by simp [ka, kb, kc])
      have hall : [a, b, c].all rdOk = true := by simp [ka, kb, kc]
      obtain ⟨sd, hsd⟩ : ∃ sd : Int, sd = if d = [49] then 1 else 0 := ⟨_, rfl⟩
      have himp := fun w hm => readTooth_impl_ok sd s m hs a b c d hx hB3 hall hsd w hm
      have bad2 : (∀ w, Calls Tryd.prog 9 #[.string s] w (RtQ RtNo w)) → ¬ ((d = [48] ∨ d = [49]) ∧ okTooth (rdN a 0) (rdN b 0) (rdN c 0) sd = true) → ∃ (H X Y : Nat) (z k : Int),
          (∀ w, Calls Tryd.prog 9 #[.string s] w (RtQ (Rt5 H X Y z k) w)) ∧
          (∀ w : World, w.cell? ⟨2, 0, none⟩ = some (.int .i64 m) → Calls Tryd.prog 10 #[.string s] w (RtQ (Rt5 H X Y z k) w)) := fun h1 h2 =>
        ⟨0, 0, 0, 0, 5, fun w => (h1 w).mono fun _ _ h => h.imp Rt5.no, fun w hm => (himp w hm).mono fun _ _ h => h.imp fun h x y z k hp => by
          obtain ⟨_, h', x', y', e1, e2, e3, ⟨ht, _⟩ | ⟨_, hn⟩⟩ := hp
          · exact absurd ((rt_agree hx ka kb kc e1 e2 e3 hsd).1 ht) h2
          · exact Rt5.no _ _ _ _ _ hn⟩
      by_cases h01 : d = [48] ∨ d = [49]
      · have h01' := (nm_01 d).2 h01
        have hv : (nmV d 0 : Int) = sd := by
          rcases h01 with rfl | rfl
          · rw [hsd]; rfl
          · rw [hsd]; rfl
        cases k5 : okTooth (rdN a 0) (rdN b 0) (rdN c 0) sd
        · exact bad2 (fun w => readTooth_spec_f s hs a b c d hx ha hb hc _ _ _ rfl rfl rfl ka kb kc hd h01'.1 h01'.2 (by rw [hv]; exact k5) w) (fun h => by rw [k5] at h; cases h.2)
        · refine ⟨rdN a 0, rdN b 0, rdN c 0, sd, 0, fun w => (readTooth_spec_y s hs a b c d hx ha hb hc _ _ _ rfl rfl rfl ka kb kc hd h01'.1 h01'.2 (by rw [hv]; exact k5) w).mono fun _ _ h => h.imp ?_, fun w hm => (himp w hm).mono fun _ _ h => h.imp ?_⟩
          · rintro h x y z k ⟨rfl, rfl, rfl, rfl, rfl⟩
            have cnr : ∀ l : List UInt8, rdOk l = true → cn (rdN l 0) = rdN l 0 := fun l hl => by
              unfold rdOk at hl
              simp only [Bool.and_eq_true, decide_eq_true_eq] at hl
              exact hl.2
            exact ⟨cnr a ka, cnr b kb, cnr c kc, hv, rfl⟩
          · rintro h x y z k ⟨_, h', x', y', e1, e2, e3, ⟨_, rfl, rfl, rfl, rfl, rfl⟩ | ⟨hn, _⟩⟩
            · exact ⟨e1, e2, e3, rfl, rfl⟩
            · exact absurd ((rt_agree hx ka kb kc e1 e2 e3 hsd).2 ⟨h01, k5⟩) hn
      · have h01' : ¬ (nmOk d = true ∧ nmV d 0 ≤ 1) := fun h => h01 ((nm_01 d).1 h)
        cases k3 : nmOk d
        · exact bad2 (fun w => readTooth_spec_d s hs a b c d hx ha hb hc _ _ _ rfl rfl rfl ka kb kc hd k3 w) (fun h => h01 h.1)
        · exact bad2 (fun w => readTooth_spec_e s hs a b c d hx ha hb hc _ _ _ rfl rfl rfl ka kb kc hd k3 (by rw [k3] at h01'; have : ¬ nmV d 0 ≤ 1 := fun h => h01' ⟨rfl, h⟩; omega) w) (fun h => h01 h.1)
  · exact ⟨0, 0, 0, 0, 5, fun w => (readTooth_spec_len s hs xs hx h4 w).mono fun _ _ h => h.imp Rt5.no, fun w hm => (readTooth_impl_len s m hs xs hx h4 w hm).mono fun _ _ h => h.imp Rt5.no⟩
set_option maxHeartbeats 1000000 in
theorem law_readTooth (s : ByteArray) (ws : s.size ≤ 9223372036854775807) (m : Int) (w : World) (hm : w.cell? ⟨2, 0, none⟩ = some (.int .i64 m)) :
    Calls Tryd.prog 4 #[.string s] w fun e w' => e = .returned (.bool true) ∧ Below w.heap.size w w' := by
  by_cases hs : s.size ≤ 1048576
  · obtain ⟨H, X, Y, z, k, h1, h2⟩ := readTooth_both s m hs
    have H1 := Lib.hid h1
    have H2 := Lib.hid h2
    have HM := Lib.hid hm
    have x1 : (s.size : Int) ≤ 1048576 := by omega
    have hg := World.block_lt_of_cell? w _ hm
    clear h1 h2 hm ws hs
    go_enter Tryd.func4, Tryd.ntmps4
    go_wp2_with (first
      | (go_at_call 9; refine (H1.out _).mono ?_; rintro e w1 ⟨h, x, y, z', k', rfl, ⟨e1, e2, e3, ez, ek⟩, hb1⟩; subst ez; subst ek; have HE := Lib.hid (And.intro e1 (And.intro e2 e3)); clear e1 e2 e3; have hc1 := bc hb1; have hf1 := bf hb1; have hs1 := hb1.size; (try simp at hs1); (try have hz10 : w.heap.size < w1.heap.size := by omega); (try have hz11 : w.heap.size + 1 < w1.heap.size := by omega); (try have hz12 : w.heap.size + 1 + 1 < w1.heap.size := by omega); (try have hz13 : w.heap.size + 1 + 1 + 1 < w1.heap.size := by omega))
      | (go_at_call 10; refine (H2.out _ ((bc (balloc hb1 _) _ 0 hg).trans HM.out)).mono ?_; rintro e w2 ⟨h', x', y', z'', k'', rfl, ⟨e1, e2, e3, ez, ek⟩, hb2⟩; replace ez := ez.symm; replace ek := ek.symm; subst ez; subst ek; have HE2 := Lib.hid (And.intro e1 (And.intro e2 e3)); clear e1 e2 e3; have hc2 := bc hb2; have hf2 := bf hb2; have hs2 := hb2.size; (try simp at hs2); (try have hz20 : w.heap.size < w2.heap.size := by omega); (try have hz21 : w.heap.size + 1 < w2.heap.size := by omega); (try have hz22 : w.heap.size + 1 + 1 < w2.heap.size := by omega); (try have hz23 : w.heap.size + 1 + 1 + 1 < w2.heap.size := by omega); (have hyy : w1.heap.size < w2.heap.size := by have hh := hb2.size; simp at hh; omega); (have k20 : w2.cell? ⟨w1.heap.size, 0, none⟩ = some (.float .f32 h) := (hc2 w1.heap.size 0 (by first | omega | (simp; done) | (simp; omega))).trans (by go_simp)); (have k21 : w2.cell? ⟨w1.heap.size, 1, none⟩ = some (.float .f32 x) := (hc2 w1.heap.size 1 (by first | omega | (simp; done) | (simp; omega))).trans (by go_simp)); (have k22 : w2.cell? ⟨w1.heap.size, 2, none⟩ = some (.float .f32 y) := (hc2 w1.heap.size 2 (by first | omega | (simp; done) | (simp; omega))).trans (by go_simp)); (have k23 : w2.cell? ⟨w1.heap.size, 3, none⟩ = some (.int .i8 z') := (hc2 w1.heap.size 3 (by first | omega | (simp; done) | (simp; omega))).trans (by go_simp)))
      | (go_at_call 11; refine (eqTooth_any _ _ _ _ _ _ _ (HE2.out.1.trans HE.out.1.symm) (HE2.out.2.1.trans HE.out.2.1.symm) (HE2.out.2.2.trans HE.out.2.2.symm) _).mono ?_; rintro e w3 ⟨rfl, hb3⟩; have hc3 := bc hb3; have hf3 := bf hb3; have hs3 := hb3.size; (try simp at hs3); (try have hz30 : w.heap.size < w3.heap.size := by omega); (try have hz31 : w.heap.size + 1 < w3.heap.size := by omega); (try have hz32 : w.heap.size + 1 + 1 < w3.heap.size := by omega); (try have hz33 : w.heap.size + 1 + 1 + 1 < w3.heap.size := by omega); (try have hy320 : w2.heap.size < w3.heap.size := by omega); (try have hy321 : w2.heap.size + 1 < w3.heap.size := by omega)))
    all_goals (go_ret; refine ⟨by simp, ?_⟩)
    all_goals (repeat (first | with_reducible exact Below.refl _ _ | with_reducible refine bset ?_ (by first | (simp; done) | (simp; omega) | omega) _ | with_reducible refine balloc ?_ _ | with_reducible refine bdrewN ?_ _ | with_reducible refine bdrew ?_ | with_reducible refine bstep ?_ (by assumption)))
  · have x1 : (1048576 : Int) < (s.size : Int) := by omega
    clear hs
    go_enter Tryd.func4, Tryd.ntmps4
    go_wp2
    go_ret
    exact ⟨rfl, Below.refl _ _⟩
end Go.Proofs.YtljcjgliddhgkaaDoor
