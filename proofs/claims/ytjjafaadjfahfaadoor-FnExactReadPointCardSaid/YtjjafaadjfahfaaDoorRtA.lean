/- Texts cut at one byte by the library; numbers out of a row of texts: the program's side. -/
import Derived.Test.YtjjafaadjfahfaaDoorRdB
import Derived.Test.YtjjafaadjfahfaaDoorFs
namespace Go.Proofs.YtjjafaadjfahfaaDoor
open Go.RowKit Ieee
open Go.Proofs.YtjjafaadjfahfaaDoorW.PrintWords
set_option maxRecDepth 100000
attribute [local irreducible] wpRel
theorem splitB_one (c : UInt8) (s : ByteArray) : (Go.Lib.splitB ⟨#[c]⟩ 0 (Go.Lib.countB s ⟨#[c]⟩) s).map (·.data.toList) = splC c s.data.toList := by
  rw [Go.Lib.splitB_data]
  exact splitK_one c s.data.toList
theorem splC_len (c : UInt8) : ∀ l : List UInt8, (splC c l).length ≤ l.length + 1
  | [] => Nat.le_refl _
  | b :: l => by
    have ih := splC_len c l
    obtain ⟨h, t, e⟩ := splC_cons c l
    unfold splC
    split
    · simp only [List.length_cons]; omega
    · rw [e] at ih ⊢
      simp only [List.length_cons, List.tail_cons] at ih ⊢; omega
/-- A row of texts out of a block of them. -/
theorem kS_block (w : World) (xs : List ByteArray) (t : Nat) (n : Nat) (hn : xs.length = n) (h1 : 1 ≤ n) (hm : n ≤ 9223372036854775807) :
    Kd.C kS (w.alloc (.cells (xs.map Value.string).toArray t)) (some ⟨w.heap.size, 0, none⟩) n (xs.map (·.data.toList)) := by
  refine ⟨by rw [List.length_map]; exact hn, hm, fun _ => ⟨_, rfl, fun j p hj => ?_⟩⟩
  rw [List.getElem?_map] at hj
  obtain ⟨x, hx, hp⟩ := Option.map_eq_some_iff.1 hj
  subst hp
  refine ⟨[.string x], rfl, rfl, fun i u hu => ?_⟩
  obtain ⟨rfl, rfl⟩ : i = 0 ∧ u = .string x := by
    cases i with
    | zero => exact ⟨rfl, by simpa using hu.symm⟩
    | succ i => simp at hu
  rw [show (⟨w.heap.size, 0, none⟩ : Addr).add (j * kS.sz + 0) = ⟨w.heap.size, j, none⟩ from by show Addr.add _ (j * 1 + 0) = _; by_cases h0 : j = 0 <;> simp [Addr.add, h0]]
  rw [World.cell?_alloc_at _ _ _ _ rfl]
  simp [hx]
theorem split_any (c : UInt8) (s : ByteArray) (m : Int) (w : World) (hs : s.size ≤ 1048577) (hm : w.cell? ⟨1, 0, none⟩ = some (.int .i64 m)) :
    Calls Tryd.prog 10 #[.string s, .string ⟨#[c]⟩] w fun e w' => e = .returned (.slice (some ⟨w.heap.size, 0, none⟩) (splC c s.data.toList).length (splC c s.data.toList).length) ∧ Kd.C kS w' (some ⟨w.heap.size, 0, none⟩) (splC c s.data.toList).length (splC c s.data.toList) ∧ Below w.heap.size w w' := by
  refine (Tryd.strings_Split s ⟨#[c]⟩ m w (by omega) hm (Nat.le_refl 1)).mono ?_
  rintro e w' ⟨rfl, rfl⟩
  have hl : (splC c s.data.toList).length = Go.Lib.countB s ⟨#[c]⟩ + 1 := by
    rw [← splitB_one, List.length_map]
    exact Go.Lib.splitB_all ⟨#[c]⟩ (Nat.le_refl 1) 0 _ s rfl
  rw [hl]
  refine ⟨rfl, ?_, balloc (Below.refl _ _) _⟩
  have hk := kS_block w (Go.Lib.splitB ⟨#[c]⟩ 0 (Go.Lib.countB s ⟨#[c]⟩) s) 9 (Go.Lib.countB s ⟨#[c]⟩ + 1) (by rw [← hl, ← splitB_one, List.length_map]) (by omega) (by
    have := splC_len c s.data.toList
    rw [hl] at this
    have h2 : s.data.toList.length = s.size := rfl
    omega)
  rw [splitB_one] at hk
  exact hk
theorem getD_size {xs : List (List UInt8)} {j : Nat} {B : Nat} (h : ∀ x ∈ xs, x.length ≤ B) (hj : j < xs.length) : (⟨(xs.getD j []).toArray⟩ : ByteArray).size ≤ B := by
  have hm : xs.getD j [] ∈ xs := by
    rw [List.getD_eq_getElem?_getD, List.getElem?_eq_getElem hj]
    exact List.getElem_mem hj
  have := h _ hm
  show (xs.getD j []).toArray.size ≤ B
  simpa using this
theorem rn_no (l : List UInt8) (hs : (⟨l.toArray⟩ : ByteArray).size ≤ 1048577) (h : rdOk l = false) (w : World) :
    Calls Tryd.prog 14 #[.string ⟨l.toArray⟩] w fun e w' => e = .returned (.tuple #[.float .f32 0, .int .i64 5]) ∧ Below w.heap.size w w' := by
  refine (readNumber_any ⟨l.toArray⟩ hs w).mono ?_
  rintro e w' ⟨rfl, hb⟩
  refine ⟨?_, hb⟩
  have e1 : (⟨l.toArray⟩ : ByteArray).data.toList = l := rfl
  rw [e1]
  unfold rnV
  rw [h]; rfl
theorem rn_ok (l : List UInt8) (hs : (⟨l.toArray⟩ : ByteArray).size ≤ 1048577) (h : rdOk l = true) (w : World) :
    Calls Tryd.prog 14 #[.string ⟨l.toArray⟩] w fun e w' => e = .returned (.tuple #[.float .f32 (rdN l 0), .int .i64 0]) ∧ Below w.heap.size w w' := by
  refine (readNumber_any ⟨l.toArray⟩ hs w).mono ?_
  rintro e w' ⟨rfl, hb⟩
  refine ⟨?_, hb⟩
  have e1 : (⟨l.toArray⟩ : ByteArray).data.toList = l := rfl
  rw [e1]
  unfold rnV
  rw [h]; rfl
/-- What comes of reading a row of texts. -/
def NosQ (xs : List (List UInt8)) (w : World) (e : Ending) (w' : World) : Prop :=
  (∃ v, e = .returned (.tuple #[v, .bool (xs.all rdOk)]) ∧ (xs.all rdOk = true → FR w' w.heap.size v (xs.map fun l => rdN l 0))) ∧ Below w.heap.size w w'
set_option maxHeartbeats 600000 in
theorem numbersOf_any (A : Option Addr) (c n : Nat) (xs : List (List UInt8)) (w : World) (hn1 : xs.length = n) (hA : Kd.C kS w A n xs) (hn : n ≤ 1048577) (hB : ∀ x ∈ xs, x.length ≤ 1048577) :
    Calls Tryd.prog 9 #[.slice A n c] w (NosQ xs w) := by
  have HA := Lib.hid hA
  have HN := Lib.hid hn1
  have HB := Lib.hid hB
  clear hA hn1 hB
  have HR0 := Lib.hid (FR.empty (w := w.alloc (.cells #[] 30)) w.heap.size w.heap.size (heap_alloc_new w _) (Nat.le_refl _))
  go_enter Tryd.func9, Tryd.ntmps9
  go_wp2
  go_loopw [4, 12] (fun v i wr => ∃ k : Nat, k ≤ n ∧ i = .int .i64 (k : Nat) ∧ Hid ((xs.take k).all rdOk = true) ∧ Hid (FR wr w.heap.size v ((xs.take k).map fun l => rdN l 0)) ∧ Below w.heap.size w wr) (fun _ i _ => n - (intOf i).toNat)
  case atStart => exact ⟨0, Nat.zero_le _, rfl, Lib.hid rfl, HR0, balloc (Below.refl _ _) _⟩
  case round =>
    clear HR0
    obtain ⟨k, hk, rfl, HO, HR, hb⟩ := hrel
    by_cases hlt : k < n
    · obtain ⟨b, off, rfl, hbl, c0⟩ := at_kS HA.out k hlt
      have d0 := (bc hb b (off + k) hbl).trans c0
      have x1 : (k : Int) < (n : Int) := by omega
      have x2 : (0 : Int) ≤ (k : Int) := by omega
      have hkx : k < xs.length := by have := HN.out; omega
      have HSZ := Lib.hid (getD_size HB.out hkx)
      have htk : xs.take (k + 1) = xs.take k ++ [xs.getD k []] := by
        rw [List.take_succ_eq_append_getElem hkx, List.getD_eq_getElem?_getD, List.getElem?_eq_getElem hkx]; rfl
      have hmem : xs.getD k [] ∈ xs := by
        rw [List.getD_eq_getElem?_getD, List.getElem?_eq_getElem hkx]
        exact List.getElem_mem hkx
      obtain ⟨l, hl⟩ : ∃ l, xs.getD k [] = l := ⟨_, rfl⟩
      rw [hl] at d0 HSZ htk hmem
      clear hl c0
      cases hok : rdOk l
      · have hall : xs.all rdOk = false := by
          rw [Bool.eq_false_iff]
          intro h
          rw [List.all_eq_true.1 h _ hmem] at hok
          cases hok
        have HC := Lib.hid hok
        have HALL := Lib.hid hall
        clear hall hok htk hmem
        go_wp2_with (go_at_call 14; refine (rn_no l HSZ.out HC.out _).mono ?_; rintro e w2 ⟨rfl, hb2⟩)
        go_ret2
        exact ⟨⟨_, by rw [HALL.out]; rfl, fun h => by rw [HALL.out] at h; cases h⟩, bstep hb hb2⟩
      · have HC := Lib.hid hok
        have HO2 := Lib.hid (show (xs.take (k + 1)).all rdOk = true by rw [htk, List.all_append, HO.out]; simp [hok])
        have HM := Lib.hid (show (xs.take (k + 1)).map (fun l => rdN l 0) = (xs.take k).map (fun l => rdN l 0) ++ [rdN l 0] by rw [htk, List.map_append]; rfl)
        have HL := Lib.hid (show ((xs.take k).map fun l => rdN l 0).length ≤ 1048576 by rw [List.length_map, List.length_take]; omega)
        have hcn : cn (rdN l 0) = rdN l 0 := by
          unfold rdOk at hok
          simp only [Bool.and_eq_true, decide_eq_true_eq] at hok
          exact hok.2
        have HF := Lib.hid (show FV (rdN l 0) (rdN l 0) from ⟨hcn, rdN_lt _ _ (by decide)⟩)
        have HRO := Lib.hid (fun w' => (rn_ok l HSZ.out HC.out w'))
        clear hok htk hcn hmem
        obtain ⟨r, hr⟩ : ∃ r, rdN l 0 = r := ⟨_, rfl⟩
        rw [hr] at HF HM HRO
        clear hr
        go_wp2_with fail
        go_at_call 14
        refine (HRO.out _).mono ?_
        rintro e w2 ⟨rfl, hb2⟩
        have HR2 := Lib.hid (HR.out.below hb2)
        have hbb := bstep hb hb2
        go_wp2_with (at_builtin; go_must ((refine apF (w0 := w) (o := ⟨some 26, _, _, _, _, _⟩) rfl (.tmp 23) (.tmp 25) rfl u4 ((xs.take k).map (fun l => rdN l 0)) r r ?y26 ?x26 HF.out ?o26 ?b26 HL.out ?_; (case y26 => rfl); (case x26 => go_simp); (case o26 => (with_reducible repeat (first | apply FR.alloc | apply FR.drewN | apply FR.drew)); exact HR2.out); (case b26 => (repeat (first | with_reducible exact Below.refl _ _ | with_reducible refine bset ?_ (by first | (simp; done) | (simp; omega) | omega) _ | with_reducible refine balloc ?_ _ | with_reducible refine bdrewN ?_ _ | with_reducible refine bdrew ?_ | with_reducible refine bstep ?_ (by assumption)))); intro v26 w26 ho_ hb26 hg26 hat26; have HO26 := Lib.hid ho_; clear ho_ hg26 hat26)))
        go_roundw
        case rel => exact ⟨k + 1, hlt, by go_num, HO2, Lib.hid (by rw [HM.out]; exact HO26.out), hb26⟩
        case measure => simp [intOf]; omega
    · obtain rfl : k = n := by omega
      have htk : xs.take k = xs := List.take_of_length_le (by have := HN.out; omega)
      rw [htk] at HO HR
      clear htk hlt
      go_wp2
      go_ret2
      exact ⟨⟨_, by rw [HO.out]; rfl, fun _ => HR.out⟩, hb⟩
end Go.Proofs.YtjjafaadjfahfaaDoor
