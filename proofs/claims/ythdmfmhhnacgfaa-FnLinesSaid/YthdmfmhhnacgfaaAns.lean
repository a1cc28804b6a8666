/- The answers of a line: values, and the program's walk. -/
import Derived.Test.YthdmfmhhnacgfaaLine2
import Derived.Test.YthdmfmhhnacgfaaAp
namespace Go.Proofs.Ythdmfmhhnacgfaa
open Go.RowKit Ieee
open Go.Proofs.YthdmfmhhnacgfaaW.PrintWords
set_option maxRecDepth 100000

def ans (l : List (Nat × Nat)) (q : Nat) : Nat → Nat × Nat
  | 0 => (1065353216, fsub 0 (fmul q (l.getD 0 (0, 0)).1))
  | i + 1 => (fadd (ans l q i).1 (fdiv (ans l q i).2 (l.getD i (0, 0)).2),
      fsub (ans l q i).2 (fmul (fmul q (l.getD (i + 1) (0, 0)).1) (fadd (ans l q i).1 (fdiv (ans l q i).2 (l.getD i (0, 0)).2))))
def swL (l : List (Nat × Nat)) (q : Nat) (n : Nat) : List Nat := (List.range n).map fun i => (ans l q i).1
def twL (l : List (Nat × Nat)) (q : Nat) (n : Nat) : List Nat := (List.range n).map fun i => (ans l q i).2
theorem swL_succ (l : List (Nat × Nat)) (q : Nat) (n : Nat) : swL l q (n + 1) = swL l q n ++ [(ans l q n).1] := by simp [swL, List.range_succ]
theorem twL_succ (l : List (Nat × Nat)) (q : Nat) (n : Nat) : twL l q (n + 1) = twL l q n ++ [(ans l q n).2] := by simp [twL, List.range_succ]
theorem swL_length (l : List (Nat × Nat)) (q : Nat) (n : Nat) : (swL l q n).length = n := by simp [swL]
theorem twL_length (l : List (Nat × Nat)) (q : Nat) (n : Nat) : (twL l q n).length = n := by simp [twL]
/-- What stands in the two variables before round k. -/
def stA (l : List (Nat × Nat)) (q : Nat) : Nat → Nat → Nat → Prop
  | 0, o, t => o = 1065353216 ∧ t = 0
  | k + 1, o, t => FV o (ans l q k).1 ∧ FV t (ans l q k).2
theorem FV_one : FV 1065353216 1065353216 := ⟨by decide, by decide⟩
theorem cn_zero' : cn 0 = 0 := by decide
def AnsQ (l : List (Nat × Nat)) (q : Nat) (w : World) (e : Ending) (w' : World) : Prop :=
  ∃ v1 v2, e = .returned (.tuple #[v1, v2]) ∧ FR w' w.heap.size v1 (swL l q l.length) ∧ FR w' w.heap.size v2 (twL l q l.length) ∧ NE v1 v2 ∧ Below w.heap.size w w'

set_option maxHeartbeats 4000000 in
theorem answers_impl (A : Option Addr) (c : Nat) (l : List (Nat × Nat)) (q : Nat) (w : World) (hA : Kd.C kD w A l.length l) (hm : l.length ≤ 1048576) :
    Calls Try.prog 20 #[.slice A l.length c, .float .f32 q] w (AnsQ l (cn q) w) := by
  have HA : Hid (Kd.C kD w A l.length l) := Lib.hid hA
  clear hA
  go_enter Try.func20, Try.ntmps20
  go_wp2
  go_loopw [6, 7, 8, 9, 17] (fun v1 v2 o t i wr => ∃ k r8 r9 : Nat, k ≤ l.length ∧ i = .int .i64 k ∧ o = .float .f32 r8 ∧ t = .float .f32 r9 ∧ Hid (FR wr w.heap.size v1 (swL l (cn q) k)) ∧ Hid (FR wr w.heap.size v2 (twL l (cn q) k)) ∧ Hid (NE v1 v2) ∧ Hid (stA l (cn q) k r8 r9) ∧ Below w.heap.size w wr) (fun _ _ _ _ i _ => l.length - (intOf i).toNat)
  case atStart => exact ⟨0, 1065353216, 0, Nat.zero_le _, rfl, rfl, rfl, Lib.hid ((FR.empty (w := w.alloc (.cells #[] 26)) w.heap.size w.heap.size (heap_alloc_new w _) (Nat.le_refl _)).alloc _), Lib.hid (FR.empty w.heap.size (w.heap.size + 1) (by have := heap_alloc_new (w.alloc (.cells #[] 26)) (.cells #[] 26); simpa using this) (Nat.le_succ _)), Lib.hid (fun k hk he => by simp [Value.ownBlock] at hk he; omega), Lib.hid ⟨rfl, rfl⟩, by (repeat (first | with_reducible exact Below.refl _ _ | with_reducible refine bset ?_ (by first | (simp; done) | (simp; omega) | omega) _ | with_reducible refine balloc ?_ _ | with_reducible refine bdrewN ?_ _ | with_reducible refine bdrew ?_ | with_reducible refine bstep ?_ (by assumption)))⟩
  case round =>
    obtain ⟨k, r8, r9, hk, rfl, rfl, rfl, H1, H2, HN, HS, hb⟩ := hrel
    by_cases hlt : k < l.length
    · cases k with
      | zero =>
        obtain ⟨b, off, r, s, rfl, hbl, c0, c1, hr, hs⟩ := at_kD HA.out 0 hlt
        have d0 := (bc hb b (off + 0 * 2) hbl).trans c0
        have d1 := (bc hb b (off + 0 * 2 + 1) hbl).trans c1
        simp only [Nat.zero_mul, Nat.add_zero] at d0 d1
        obtain ⟨rfl, rfl⟩ := HS.out
        clear HS c0 c1 hs
        have hI : cn r = (l.getD 0 (0, 0)).1 := hr.1
        have HI := Lib.hid hI
        clear hr hI
        go_wp2_with (first | (refine wpList_fop (o := ⟨some 37, _, _, _, _, _⟩) rfl rfl (by first | exact .inl rfl | exact .inr (.inl rfl) | exact .inr (.inr (.inl rfl)) | exact .inr (.inr (.inr rfl))) rfl rfl ?_; intro r37 n37 h37) | ((refine wpList_fop (o := ⟨some 45, _, _, _, _, _⟩) rfl rfl (by first | exact .inl rfl | exact .inr (.inl rfl) | exact .inr (.inr (.inl rfl)) | exact .inr (.inr (.inr rfl))) rfl rfl ?_; intro r45 n45 h45); have hv2 : FV r45 (ans l (cn q) 0).2 := (by rw [h37.1, HI.out] at h45; rw [cn_zero'] at h45; exact h45); have HV2 := Lib.hid hv2; clear hv2) | (at_builtin; (refine apF2 (w0 := w) (o := ⟨some 49, _, _, _, _, _⟩) rfl (.tmp 46) (.tmp 48) rfl u6 u7 (swL l (cn q) 0) (twL l (cn q) 0) ((ans l (cn q) 0).1) 1065353216 ?y49 ?x49 FV_one ?o49 ?u49 HN.out.symm ?b49 (Nat.zero_le _) ?_; (case y49 => rfl); (case x49 => go_simp); (case o49 => (with_reducible repeat (first | apply FR.alloc | apply FR.drewN | apply FR.drew)); exact H1.out); (case u49 => (with_reducible repeat (first | apply FR.alloc | apply FR.drewN | apply FR.drew)); exact H2.out); (case b49 => (repeat (first | with_reducible exact Below.refl _ _ | with_reducible refine bset ?_ (by first | (simp; done) | (simp; omega) | omega) _ | with_reducible refine balloc ?_ _ | with_reducible refine bdrewN ?_ _ | with_reducible refine bdrew ?_ | with_reducible refine bstep ?_ (by assumption)))); intro v49 w49 ho_ hu_ ne_ hb49; have HO49 := Lib.hid ho_; have HU49 := Lib.hid hu_; have NE49 := Lib.hid ne_; clear ho_ hu_ ne_)) | (at_builtin; go_must ((refine apF2 (w0 := w) (o := ⟨some 53, _, _, _, _, _⟩) rfl (.tmp 50) (.tmp 52) rfl u7 v49 (twL l (cn q) 0) (swL l (cn q) 0 ++ [(ans l (cn q) 0).1]) ((ans l (cn q) 0).2) r45 ?y53 ?x53 HV2.out ?o53 ?u53 NE49.out.symm ?b53 (Nat.zero_le _) ?_; (case y53 => rfl); (case x53 => go_simp); (case o53 => (with_reducible repeat (first | apply FR.alloc | apply FR.drewN | apply FR.drew)); exact HU49.out); (case u53 => (with_reducible repeat (first | apply FR.alloc | apply FR.drewN | apply FR.drew)); exact HO49.out); (case b53 => (repeat (first | with_reducible exact Below.refl _ _ | with_reducible refine bset ?_ (by first | (simp; done) | (simp; omega) | omega) _ | with_reducible refine balloc ?_ _ | with_reducible refine bdrewN ?_ _ | with_reducible refine bdrew ?_ | with_reducible refine bstep ?_ (by assumption)))); intro v53 w53 ho_ hu_ ne_ hb53; have HO53 := Lib.hid ho_; have HU53 := Lib.hid hu_; have NE53 := Lib.hid ne_; clear ho_ hu_ ne_))))
        go_roundw
        case rel => exact ⟨1, 1065353216, r45, hlt, by go_num, rfl, rfl, Lib.hid (by rw [swL_succ]; exact HU53.out), Lib.hid (by rw [twL_succ]; exact HO53.out), Lib.hid NE53.out, Lib.hid ⟨FV_one, HV2.out⟩, hb53⟩
        case measure => simp [intOf]; omega
      | succ j =>
        obtain ⟨b, off, r, s, rfl, hbl, c0, c1, hr, hs⟩ := at_kD HA.out (j + 1) hlt
        obtain ⟨b', off', r', s', hA', _, c0', c1', hr', hs'⟩ := at_kD HA.out j (by omega)
        cases hA'
        have d0 := (bc hb b (off + (j + 1) * 2) hbl).trans c0
        have d1 := (bc hb b (off + (j + 1) * 2 + 1) hbl).trans c1
        have d0' := (bc hb b (off + j * 2) hbl).trans c0'
        have d1' := (bc hb b (off + j * 2 + 1) hbl).trans c1'
        have hO := HS.out.1
        have hT := HS.out.2
        have HO8 := Lib.hid hO.1
        have HT := Lib.hid hT.1
        have HI := Lib.hid hr.1
        have HSj := Lib.hid hs'.1
        clear HS c0 c1 c0' c1' hr hs hr' hs' hO hT
        have l0 : b < wr.heap.size := Nat.lt_of_lt_of_le hbl hb.size
        have hlt2 : (j : Int) + 1 < (l.length : Int) := by omega
        have HL1 := Lib.hid (show (swL l (cn q) (j + 1)).length ≤ 1048576 by rw [swL_length]; omega)
        have HL2 := Lib.hid (show (twL l (cn q) (j + 1)).length ≤ 1048576 by rw [twL_length]; omega)
        go_wp2_with (first | (refine wpList_fop (o := ⟨some 32, _, _, _, _, _⟩) rfl rfl (by first | exact .inl rfl | exact .inr (.inl rfl) | exact .inr (.inr (.inl rfl)) | exact .inr (.inr (.inr rfl))) rfl rfl ?_; intro r32 n32 h32) | ((refine wpList_fop (o := ⟨some 33, _, _, _, _, _⟩) rfl rfl (by first | exact .inl rfl | exact .inr (.inl rfl) | exact .inr (.inr (.inl rfl)) | exact .inr (.inr (.inr rfl))) rfl rfl ?_; intro r33 n33 h33); have hv1 : FV r33 (ans l (cn q) (j + 1)).1 := (by rw [h32.1, HO8.out, HT.out, HSj.out] at h33; exact h33); have HV1 := Lib.hid hv1; clear hv1 h32 h33) | (refine wpList_fop (o := ⟨some 37, _, _, _, _, _⟩) rfl rfl (by first | exact .inl rfl | exact .inr (.inl rfl) | exact .inr (.inr (.inl rfl)) | exact .inr (.inr (.inr rfl))) rfl rfl ?_; intro r37 n37 h37) | (refine wpList_fop (o := ⟨some 42, _, _, _, _, _⟩) rfl rfl (by first | exact .inl rfl | exact .inr (.inl rfl) | exact .inr (.inr (.inl rfl)) | exact .inr (.inr (.inr rfl))) rfl rfl ?_; intro r42 n42 h42) | ((refine wpList_fop (o := ⟨some 45, _, _, _, _, _⟩) rfl rfl (by first | exact .inl rfl | exact .inr (.inl rfl) | exact .inr (.inr (.inl rfl)) | exact .inr (.inr (.inr rfl))) rfl rfl ?_; intro r45 n45 h45); have hv2 : FV r45 (ans l (cn q) (j + 1)).2 := (by rw [h42.1, h37.1, HV1.out.1, HT.out, HI.out] at h45; exact h45); have HV2 := Lib.hid hv2; clear hv2 h42 h37 h45) | (at_builtin; (refine apF2 (w0 := w) (o := ⟨some 49, _, _, _, _, _⟩) rfl (.tmp 46) (.tmp 48) rfl u6 u7 (swL l (cn q) (j + 1)) (twL l (cn q) (j + 1)) ((ans l (cn q) (j + 1)).1) r33 ?y49 ?x49 HV1.out ?o49 ?u49 HN.out.symm ?b49 HL1.out ?_; (case y49 => rfl); (case x49 => go_simp); (case o49 => (with_reducible repeat (first | apply FR.alloc | apply FR.drewN | apply FR.drew)); exact H1.out); (case u49 => (with_reducible repeat (first | apply FR.alloc | apply FR.drewN | apply FR.drew)); exact H2.out); (case b49 => (repeat (first | with_reducible exact Below.refl _ _ | with_reducible refine bset ?_ (by first | (simp; done) | (simp; omega) | omega) _ | with_reducible refine balloc ?_ _ | with_reducible refine bdrewN ?_ _ | with_reducible refine bdrew ?_ | with_reducible refine bstep ?_ (by assumption)))); intro v49 w49 ho_ hu_ ne_ hb49; have HO49 := Lib.hid ho_; have HU49 := Lib.hid hu_; have NE49 := Lib.hid ne_; clear ho_ hu_ ne_)) | (at_builtin; go_must ((refine apF2 (w0 := w) (o := ⟨some 53, _, _, _, _, _⟩) rfl (.tmp 50) (.tmp 52) rfl u7 v49 (twL l (cn q) (j + 1)) (swL l (cn q) (j + 1) ++ [(ans l (cn q) (j + 1)).1]) ((ans l (cn q) (j + 1)).2) r45 ?y53 ?x53 HV2.out ?o53 ?u53 NE49.out.symm ?b53 HL2.out ?_; (case y53 => rfl); (case x53 => go_simp); (case o53 => (with_reducible repeat (first | apply FR.alloc | apply FR.drewN | apply FR.drew)); exact HU49.out); (case u53 => (with_reducible repeat (first | apply FR.alloc | apply FR.drewN | apply FR.drew)); exact HO49.out); (case b53 => (repeat (first | with_reducible exact Below.refl _ _ | with_reducible refine bset ?_ (by first | (simp; done) | (simp; omega) | omega) _ | with_reducible refine balloc ?_ _ | with_reducible refine bdrewN ?_ _ | with_reducible refine bdrew ?_ | with_reducible refine bstep ?_ (by assumption)))); intro v53 w53 ho_ hu_ ne_ hb53; have HO53 := Lib.hid ho_; have HU53 := Lib.hid hu_; have NE53 := Lib.hid ne_; clear ho_ hu_ ne_))))
        go_roundw
        case rel => exact ⟨j + 1 + 1, r33, r45, hlt, by go_num, rfl, rfl, Lib.hid (by rw [swL_succ]; exact HU53.out), Lib.hid (by rw [twL_succ]; exact HO53.out), Lib.hid NE53.out, Lib.hid ⟨HV1.out, HV2.out⟩, hb53⟩
        case measure => simp [intOf]; omega
    · obtain rfl : k = l.length := by omega
      go_wp2
      go_ret2
      exact ⟨_, _, rfl, H1.out, H2.out, HN.out, hb⟩
end Go.Proofs.Ythdmfmhhnacgfaa
