/- Texts cut at one byte: the model's function. -/
import Derived.Test.YtdekolkngokmpaaDoorTxt
import Derived.Test.YtdekolkngokmpaaDoorAp
import Derived.Test.YtdekolkngokmpaaDoorKs
import Derived.Test.YtdekolkngokmpaaDoorRow
import Derived.Lib.Strings
namespace Go.Proofs.YtdekolkngokmpaaDoor
open Go.RowKit Ieee
open Go.Proofs.YtdekolkngokmpaaDoorW.PrintWords
set_option maxRecDepth 100000
attribute [local irreducible] wpRel
/-- The text behind a cut. -/
theorem drop_cut {c : UInt8} {l : List UInt8} {f i : Nat} (hf : f ≤ i) (hi : i < l.length) (hno : c ∉ (l.drop f).take (i - f)) (hc : l[i]? = some c) :
    splC c (l.drop f) = (l.drop f).take (i - f) :: splC c (l.drop (i + 1)) := by
  have e : l.drop f = (l.drop f).take (i - f) ++ c :: l.drop (i + 1) := by
    have h1 : (l.drop f).drop (i - f) = c :: l.drop (i + 1) := by
      rw [List.drop_drop, show f + (i - f) = i by omega]
      have hx := List.getElem?_eq_some_iff.1 hc
      obtain ⟨h, hx⟩ := hx
      rw [List.drop_eq_getElem_cons h, hx]
    calc l.drop f = (l.drop f).take (i - f) ++ (l.drop f).drop (i - f) := (List.take_append_drop _ _).symm
      _ = _ := by rw [h1]
  calc splC c (l.drop f) = splC c ((l.drop f).take (i - f) ++ c :: l.drop (i + 1)) := by rw [← e]
    _ = _ := splC_app c _ _ hno
theorem no_snoc {c : UInt8} {l : List UInt8} {f i : Nat} (hf : f ≤ i) (hi : i < l.length) (hno : c ∉ (l.drop f).take (i - f)) (hc : l[i]? ≠ some c) : c ∉ (l.drop f).take (i + 1 - f) := by
  rw [show i + 1 - f = (i - f) + 1 by omega]
  rw [List.take_succ_eq_append_getElem (by rw [List.length_drop]; omega)]
  intro h
  rcases List.mem_append.1 h with h | h
  · exact hno h
  · rw [List.mem_singleton] at h
    apply hc
    rw [List.getElem?_eq_getElem hi, h]
    simp only [List.getElem_drop]
    congr 2
    omega

/-- What the loop has done when it stands at i: the texts cut off, and from where the next one runs. -/
def SplI (c : UInt8) (l : List UInt8) (i f : Nat) (done : List (List UInt8)) : Prop :=
  f ≤ i ∧ i ≤ l.length ∧ c ∉ (l.drop f).take (i - f) ∧ splC c l = done ++ splC c (l.drop f) ∧ done.length ≤ i
theorem SplI.start (c : UInt8) (l : List UInt8) : SplI c l 0 0 [] := ⟨Nat.le_refl _, Nat.zero_le _, by simp, by simp, Nat.le_refl _⟩
theorem SplI.hit {c : UInt8} {l : List UInt8} {i f : Nat} {done : List (List UInt8)} (h : SplI c l i f done) (hi : i < l.length) (hc : l[i]? = some c) : SplI c l (i + 1) (i + 1) (done ++ [(l.drop f).take (i - f)]) := by
  obtain ⟨h1, h2, h3, h4, h5⟩ := h
  refine ⟨Nat.le_refl _, hi, by simp, ?_, by simp; omega⟩
  rw [h4, drop_cut h1 hi h3 hc]
  simp
theorem SplI.miss {c : UInt8} {l : List UInt8} {i f : Nat} {done : List (List UInt8)} (h : SplI c l i f done) (hi : i < l.length) (hc : l[i]? ≠ some c) : SplI c l (i + 1) f done := by
  obtain ⟨h1, h2, h3, h4, h5⟩ := h
  exact ⟨by omega, hi, no_snoc h1 hi h3 hc, h4, by omega⟩
theorem SplI.last {c : UInt8} {l : List UInt8} {f : Nat} {done : List (List UInt8)} (h : SplI c l l.length f done) : splC c l = done ++ [l.drop f] := by
  obtain ⟨h1, h2, h3, h4, h5⟩ := h
  rw [h4, splC_none c (l.drop f)]
  rwa [List.take_of_length_le (by rw [List.length_drop]; omega)] at h3
set_option maxHeartbeats 2000000 in
theorem l01Split_any (s : ByteArray) (c : UInt8) (hs : s.size ≤ 1048576) (w : World) :
    Calls Tryd.prog 18 #[.string s, .int .u8 (c.toNat : Int)] w fun e w' => ∃ v, e = .returned v ∧ RW kS 9 w' w.heap.size v (splC c s.data.toList) ∧ Below w.heap.size w w' := by
  have hlen : s.data.toList.length = s.size := rfl
  have hmax : s.size ≤ maxLen := by unfold maxLen; omega
  have HLEN := Lib.hid hlen
  clear hlen
  have HR0 := Lib.hid (RW.empty (w := w.alloc (.cells #[] 9)) kS 9 w.heap.size w.heap.size (heap_alloc_new w _) (Nat.le_refl _))
  go_enter Tryd.func18, Tryd.ntmps18
  go_wp2
  go_loopw [5, 6, 7] (fun v f i wr => ∃ (k g : Nat) (done : List (List UInt8)), k ≤ s.size ∧ g ≤ k ∧ f = .int .i64 (g : Nat) ∧ i = .int .i64 (k : Nat) ∧ Hid (SplI c s.data.toList k g done) ∧ Hid (RW kS 9 wr w.heap.size v done) ∧ Below w.heap.size w wr) (fun _ _ i _ => s.size - (intOf i).toNat)
  case atStart => exact ⟨0, 0, [], Nat.zero_le _, Nat.le_refl _, rfl, rfl, Lib.hid (SplI.start _ _), HR0, balloc (Below.refl _ _) _⟩
  case round =>
    clear HR0
    obtain ⟨k, g, done, hk, hg, rfl, rfl, HS, HR, hb⟩ := hrel
    have HLD := Lib.hid (show done.length ≤ 1048576 by have := HS.out.2.2.2.2; omega)
    by_cases hlt : k < s.size
    · have hget : s.data.toList[k]? = some s[k] := by rw [List.getElem?_eq_getElem (by rw [HLEN.out]; exact hlt)]; rfl
      have x1 : (k : Int) < (s.size : Int) := by omega
      have x2 : (0 : Int) ≤ (k : Int) := by omega
      have x3 : (g : Int) ≤ (k : Int) := by omega
      by_cases hc : s[k] = c
      · have y1 : ((s[k].toNat : Int) == (c.toNat : Int)) = true := by rw [hc]; simp
        have HS2 := Lib.hid (HS.out.hit (by rw [HLEN.out]; exact hlt) (by rw [hget, hc]))
        clear hc hget
        go_wp2_with (at_builtin; go_must ((refine apSz w.heap.size (o := ⟨some 26, _, _, _, _, _⟩) rfl (.tmp 20) (.tmp 25) rfl u5 done ?y26 ?x26 ?o26 ?b26 HLD.out  ?_; (case y26 => rfl); (case x26 => go_simp); (case o26 => exact HR.out); (case b26 => have := hb.size ; simp ; omega); intro v26 w26 ho_ hg_ hat_; have HO26 := Lib.hid ho_; have HG26 := Lib.hid (And.intro hg_ hat_); clear ho_ hg_ hat_)))
        go_roundw
        case rel =>
          have e : (s.extract g k).data.toList = (s.data.toList.drop g).take (k - g) := Go.Lib.extract_data s g k
          exact ⟨k + 1, k + 1, done ++ [(s.extract g k).data.toList], hlt, Nat.le_refl _, by go_num, by go_num, Lib.hid (by rw [e]; exact HS2.out), HO26, hb.grown HG26.out.1 hb.size (fun j hj => HR.out.base_le j hj)⟩
        case measure => simp [intOf]; omega
      · have y1 : ((s[k].toNat : Int) == (c.toNat : Int)) = false := by
          have : s[k].toNat ≠ c.toNat := fun e => hc (UInt8.toNat_inj.1 e)
          simp; omega
        have HS2 := Lib.hid (HS.out.miss (by rw [HLEN.out]; exact hlt) (by rw [hget]; intro e; exact hc (Option.some.inj e)))
        clear hc hget
        go_wp2
        go_roundw
        case rel => exact ⟨k + 1, g, done, hlt, by omega, rfl, by go_num, HS2, HR, hb⟩
        case measure => simp [intOf]; omega
    · obtain rfl : k = s.size := by omega
      have HL2 := Lib.hid HS.out.last
      have x3 : (g : Int) ≤ (s.size : Int) := by omega
      clear hlt
      go_wp2_with (at_builtin; go_must ((refine apSz w.heap.size (o := ⟨some 34, _, _, _, _, _⟩) rfl (.tmp 29) (.tmp 33) rfl u5 done ?y34 ?x34 ?o34 ?b34 HLD.out  ?_; (case y34 => rfl); (case x34 => go_simp); (case o34 => exact HR.out); (case b34 => have := hb.size ; simp ; omega); intro v34 w34 ho_ hg_ hat_; have HO34 := Lib.hid ho_; have HG34 := Lib.hid (And.intro hg_ hat_); clear ho_ hg_ hat_)))
      go_ret
      have e : (s.extract g s.size).data.toList = s.data.toList.drop g := by rw [Go.Lib.extract_data, List.take_of_length_le (by rw [List.length_drop]; exact Nat.le_of_eq (by rw [HLEN.out]))]
      exact ⟨_, rfl, by rw [HL2.out, ← e]; exact HO34.out, hb.grown HG34.out.1 hb.size (fun j hj => HR.out.base_le j hj)⟩
end Go.Proofs.YtdekolkngokmpaaDoor
