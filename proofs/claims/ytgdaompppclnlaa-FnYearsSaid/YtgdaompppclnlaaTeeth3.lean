/- How far all pairs are worn: both sides. -/
import Derived.Test.YtgdaompppclnlaaTeeth
import Derived.Test.YtgdaompppclnlaaPlay
import Derived.Test.YtgdaompppclnlaaRow
namespace Go.Proofs.Ytgdaompppclnlaa
open Go.RowKit Ieee
open Go.Proofs.YtgdaompppclnlaaW.PrintWords
set_option maxRecDepth 100000
attribute [local irreducible] wpRel

def wearT (x : Tth) : Nat := wearV x.2.1 x.2.2.1 x.2.2.2
theorem okT_side {x : Tth} (h : okT x = true) : x.2.2.2 = 0 ∨ x.2.2.2 = 1 := ok_side h
theorem all_get {α : Type} {p : α → Bool} {l : List α} {z : α} {k : Nat} (h : l.all p = true) (hk : k < l.length) : p (l.getD k z) = true := by
  rw [List.getD_eq_getElem?_getD, List.getElem?_eq_getElem hk]
  exact (List.all_eq_true.1 h) _ (List.getElem_mem hk)
theorem take_map_succ {α β : Type} {f : α → β} {l : List α} {z : α} {k : Nat} (hk : k < l.length) : (l.take (k + 1)).map f = (l.take k).map f ++ [f (l.getD k z)] := by
  rw [List.take_succ_eq_append_getElem hk, List.map_append, List.getD_eq_getElem?_getD, List.getElem?_eq_getElem hk]; rfl
def tcode (t : List (Int × Int × Nat)) (l : List Tth) (f : Bool) : Int := codeT (trainOk t) (l.all okT) f (decide (l.length = t.length))
theorem tcode_ok {t : List (Int × Int × Nat)} {l : List Tth} {f : Bool} (h : tcode t l f = 0) : trainOk t = true ∧ l.all okT = true ∧ f = true ∧ l.length = t.length := by
  unfold tcode codeT at h
  cases h1 : trainOk t <;> rw [h1] at h
  · simp at h
  · cases h2 : l.all okT <;> rw [h2] at h
    · simp at h
    · cases f
      · simp at h
      · by_cases h4 : l.length = t.length
        · exact ⟨rfl, rfl, rfl, h4⟩
        · simp [h4] at h
theorem tcode_cases (t : List (Int × Int × Nat)) (l : List Tth) (f : Bool) : tcode t l f = 0 ∨ tcode t l f = 1 ∨ tcode t l f = 2 ∨ tcode t l f = 4 := by
  unfold tcode codeT
  repeat' split
  all_goals simp
def outPO (t : List (Int × Int × Nat)) (l : List Tth) : List Nat × Int := if tcode t l true = 0 then (l.map wearT, 0) else ([], tcode t l true)
def POQ (a : List Nat × Int) (w : World) (e : Ending) (w' : World) : Prop := ∃ v, e = .returned (.tuple #[v, .int .i64 a.2]) ∧ FR w' w.heap.size v a.1 ∧ Below w.heap.size w w'
theorem trainOk_len' {t : List (Int × Int × Nat)} (h : trainOk t = true) : 1 ≤ t.length ∧ t.length ≤ 8 := by
  unfold trainOk iin at h
  simp at h
  omega
theorem outPO_len (t : List (Int × Int × Nat)) (l : List Tth) : (outPO t l).1.length ≤ 8 := by
  unfold outPO
  split
  · rename_i h
    obtain ⟨h1, _, _, h4⟩ := tcode_ok h
    have := trainOk_len' h1
    simp; omega
  · simp

set_option maxHeartbeats 8000000 in
theorem playsOf_spec (A B : Option Addr) (c c' : Nat) (t : List (Int × Int × Nat)) (l : List Tth) (w : World)
    (hA : Kd.C kP w A t.length t) (hn : t.length ≤ 1048576) (hB : Kd.C kT w B l.length l) (hm : l.length ≤ 1048576) :
    Calls Try.prog 17 #[.slice A t.length c, .slice B l.length c'] w (POQ (outPO t l) w) := by
  have b0 : Below w.heap.size w (w.alloc (.cells #[] 31)) := balloc (Below.refl _ _) _
  have HC := Lib.hid (fun k hk => l06Teeth_any A B c c' t l true k hk (w.alloc (.cells #[] 31)) (Kd.C_below hA b0) hn (Kd.C_below hB b0) hm)
  have HE := Lib.hid (FR.empty (w := w.alloc (.cells #[] 31)) w.heap.size w.heap.size (heap_alloc_new w _) (Nat.le_refl _))
  by_cases h0 : tcode t l true = 0
  · have e1 : outPO t l = (l.map wearT, 0) := by unfold outPO; rw [if_pos h0]
    obtain ⟨_, hall, _, hl⟩ := tcode_ok h0
    have HC0 := Lib.hid (HC.out 0 h0)
    have HA2 := Lib.hid hall
    have HB := Lib.hid hB
    rw [e1]
    clear e1 HC h0 hall hl hA hB
    go_enter Try.func17, Try.ntmps17
    go_wp2_with (go_at_call 34; refine (HC0.out).mono ?_; rintro e w1 ⟨rfl, hb1⟩)
    have hb2 := bstep b0 hb1
    have HE1 := Lib.hid (HE.out.below hb1)
    clear HC0 HE
    go_loopw [6, 8] (fun v i wr => ∃ k : Nat, k ≤ l.length ∧ i = .int .i64 k ∧ Hid (FR wr w.heap.size v ((l.take k).map wearT)) ∧ Below w.heap.size w wr) (fun _ i _ => l.length - (intOf i).toNat)
    case atStart => exact ⟨0, Nat.zero_le _, rfl, HE1, hb2⟩
    case round =>
      clear HE1 hb2
      obtain ⟨k, hk, rfl, H1, hb⟩ := hrel
      by_cases hlt : k < l.length
      · obtain ⟨b, off, r, p, q, s, rfl, hbl, c0, c1, c2, c3, hx, hr, hp, hq, h8⟩ := at_kT HB.out k hlt
        have d1 := (bc hb b (off + k * 4 + 1) hbl).trans c1
        have d2 := (bc hb b (off + k * 4 + 2) hbl).trans c2
        have d3 := (bc hb b (off + k * 4 + 3) hbl).trans c3
        have l0 : b < wr.heap.size := Nat.lt_of_lt_of_le hbl hb.size
        have hside := okT_side (all_get (z := zT) HA2.out hlt)
        have hwt : wearT (l.getD k zT) = wearV (cn p) (cn q) s := by rw [hx]; rfl
        rw [hx] at hside
        have HL1 := Lib.hid (show ((l.take k).map wearT).length ≤ 1048576 by rw [List.length_map, List.length_take]; omega)
        have HPQ := Lib.hid (show FV p (cn p) ∧ FV q (cn q) from ⟨⟨rfl, hp⟩, ⟨rfl, hq⟩⟩)
        obtain ⟨wo, hwo⟩ : ∃ wo : World, wo = wr := ⟨_, rfl⟩
        subst hwo
        clear c0 hx hr hp hq h8
        have hside2 : s = 0 ∨ s = 1 := hside
        clear hside
        rcases hside2 with rfl | rfl
        · have HW := Lib.hid (show wearT (l.getD k zT) = cn p from hwt)
          clear hwt
          go_wp2
          go_region_held3 (fun w' => w'.cell? ⟨b, off + k * 4 + 1, none⟩ = some (.float .f32 p) ∧ w'.cell? ⟨b, off + k * 4 + 2, none⟩ = some (.float .f32 q) ∧ w'.cell? ⟨b, off + k * 4 + 3, none⟩ = some (.int .i8 0))
            (first | go_keep | exact ⟨(bc hb36 _ _ hbl).trans c1, (bc hb36 _ _ hbl).trans c2, (bc hb36 _ _ hbl).trans c3⟩)
            ((refine apF_step (w0 := w) (by rfl) (.tmp 23) (.tmp 35) (by rfl) u6 ((l.take k).map wearT) (cn p) p (by rfl) (by rfl) HPQ.out.1 H1.out.drew (bdrew hb) HL1.out ?_; intro v36 w36 ho_ hb36 hg36 hat36; have HO36 := Lib.hid ho_; clear ho_ hg36 hat36))
          go_wp2
          go_roundw
          case rel => exact ⟨k + 1, hlt, by go_num, Lib.hid (by rw [take_map_succ (z := zT) hlt, HW.out]; exact HO36.out), hb36⟩
          case measure => simp [intOf]; omega
        · have HW := Lib.hid (show wearT (l.getD k zT) = cn q from hwt)
          clear hwt
          go_wp2
          go_region_held3 (fun w' => w'.cell? ⟨b, off + k * 4 + 1, none⟩ = some (.float .f32 p) ∧ w'.cell? ⟨b, off + k * 4 + 2, none⟩ = some (.float .f32 q) ∧ w'.cell? ⟨b, off + k * 4 + 3, none⟩ = some (.int .i8 1))
            (first | go_keep | exact ⟨(bc hb36 _ _ hbl).trans c1, (bc hb36 _ _ hbl).trans c2, (bc hb36 _ _ hbl).trans c3⟩)
            ((refine apF_step (w0 := w) (by rfl) (.tmp 23) (.tmp 35) (by rfl) u6 ((l.take k).map wearT) (cn q) q (by rfl) (by rfl) HPQ.out.2 H1.out.drew (bdrew hb) HL1.out ?_; intro v36 w36 ho_ hb36 hg36 hat36; have HO36 := Lib.hid ho_; clear ho_ hg36 hat36))
          go_wp2
          go_roundw
          case rel => exact ⟨k + 1, hlt, by go_num, Lib.hid (by rw [take_map_succ (z := zT) hlt, HW.out]; exact HO36.out), hb36⟩
          case measure => simp [intOf]; omega
      · have hkl : l.take k = l := List.take_of_length_le (by omega)
        rw [hkl] at H1
        clear hkl
        go_wp2
        go_ret2
        exact ⟨_, rfl, H1.out, hb⟩
  · have e1 : outPO t l = ([], tcode t l true) := by unfold outPO; rw [if_neg h0]
    rw [e1]
    have bad : ∀ k : Int, tcode t l true = k → (k = 1 ∨ k = 2 ∨ k = 4) → Calls Try.prog 17 #[.slice A t.length c, .slice B l.length c'] w (POQ ([], k) w) := by
      intro k hk h3
      have HC0 := Lib.hid (HC.out k hk)
      clear HC hk e1 h0 hA hB
      rcases h3 with rfl | rfl | rfl
      all_goals
        go_enter Try.func17, Try.ntmps17
        go_wp2_with (go_at_call 34; refine (HC0.out).mono ?_; rintro e w1 ⟨rfl, hb1⟩)
        go_ret2
        exact ⟨_, rfl, HE.out.below hb1, bstep b0 hb1⟩
    exact bad _ rfl (by have := tcode_cases t l true; omega)
set_option maxHeartbeats 8000000 in
theorem playsOf_impl (A B : Option Addr) (c c' : Nat) (t : List (Int × Int × Nat)) (l : List Tth) (w : World)
    (hA : Kd.C kP w A t.length t) (hn : t.length ≤ 1048576) (hB : Kd.C kT w B l.length l) (hm : l.length ≤ 1048576) :
    Calls Try.prog 16 #[.slice A t.length c, .slice B l.length c'] w (POQ (outPO t l) w) := by
  have HC := Lib.hid (fun k hk => teethCode_any A B c c' t l true k hk w hA hn hB hm)
  by_cases h0 : tcode t l true = 0
  · have e1 : outPO t l = (l.map wearT, 0) := by unfold outPO; rw [if_pos h0]
    obtain ⟨_, hall, _, hl⟩ := tcode_ok h0
    have HC0 := Lib.hid (HC.out 0 h0)
    have HA2 := Lib.hid hall
    have HB := Lib.hid hB
    rw [e1]
    clear e1 HC h0 hall hl hA hB
    go_enter Try.func16, Try.ntmps16
    go_wp2_with (go_at_call 25; refine (HC0.out).mono ?_; rintro e w1 ⟨rfl, hb1⟩)
    have b0 : Below w.heap.size w (w1.alloc (.cells #[] 31)) := balloc hb1 _
    have HE := Lib.hid (FR.empty (w := w1.alloc (.cells #[] 31)) w.heap.size w1.heap.size (heap_alloc_new w1 _) hb1.size)
    clear HC0
    go_loopw [7, 19] (fun v i wr => ∃ k : Nat, k ≤ l.length ∧ i = .int .i64 k ∧ Hid (FR wr w.heap.size v ((l.take k).map wearT)) ∧ Below w.heap.size w wr) (fun _ i _ => l.length - (intOf i).toNat)
    case atStart => exact ⟨0, Nat.zero_le _, rfl, HE, b0⟩
    case round =>
      clear HE b0
      obtain ⟨k, hk, rfl, H1, hb⟩ := hrel
      by_cases hlt : k < l.length
      · obtain ⟨b, off, r, p, q, s, rfl, hbl, c0, c1, c2, c3, hx, hr, hp, hq, h8⟩ := at_kT HB.out k hlt
        have d0 := (bc hb b (off + k * 4) hbl).trans c0
        have d1 := (bc hb b (off + k * 4 + 1) hbl).trans c1
        have d2 := (bc hb b (off + k * 4 + 2) hbl).trans c2
        have d3 := (bc hb b (off + k * 4 + 3) hbl).trans c3
        have l0 : b < wr.heap.size := Nat.lt_of_lt_of_le hbl hb.size
        have hside := okT_side (all_get (z := zT) HA2.out hlt)
        rw [hx] at hside
        have hside2 : s = 0 ∨ s = 1 := hside
        have hsv : FV (wearV p q s) (wearT (l.getD k zT)) := by
          rw [hx]
          rcases hside2 with rfl | rfl
          · exact ⟨rfl, hp⟩
          · exact ⟨rfl, hq⟩
        have HV := Lib.hid hsv
        have HS := Lib.hid hside2
        have HL1 := Lib.hid (show ((l.take k).map wearT).length ≤ 1048576 by rw [List.length_map, List.length_take]; omega)
        clear c0 c1 c2 c3 hx hr hp hq h8 hside hside2 hsv
        go_wp2_with (first | (go_at_call 37; refine (wear_any _ 0 p q s HS.out _ (by go_simp) (by go_simp) (by go_simp)).mono ?_; rintro e w2 ⟨rfl, n2, rfl⟩) | (at_builtin; (refine apF (w0 := w) (o := ⟨some 26, _, _, _, _, _⟩) rfl (.tmp 23) (.tmp 25) rfl u7 ((l.take k).map wearT) (wearT (l.getD k zT)) (wearV p q s) ?y26 ?x26 HV.out ?o26 ?b26 HL1.out ?_; (case y26 => rfl); (case x26 => go_simp); (case o26 => (with_reducible repeat (first | apply FR.alloc | apply FR.drewN | apply FR.drew)); exact H1.out); (case b26 => (repeat (first | with_reducible exact Below.refl _ _ | with_reducible refine bset ?_ (by first | (simp; done) | (simp; omega) | omega) _ | with_reducible refine balloc ?_ _ | with_reducible refine bdrewN ?_ _ | with_reducible refine bdrew ?_ | with_reducible refine bstep ?_ (by assumption)))); intro v26 w26 ho_ hb26 hg26 hat26; have HO26 := Lib.hid ho_; clear ho_ hg26 hat26)))
        go_roundw
        case rel => exact ⟨k + 1, hlt, by go_num, Lib.hid (by rw [take_map_succ (z := zT) hlt]; exact HO26.out), hb26⟩
        case measure => simp [intOf]; omega
      · have hkl : l.take k = l := List.take_of_length_le (by omega)
        rw [hkl] at H1
        clear hkl
        go_wp2
        go_ret2
        exact ⟨_, rfl, H1.out, hb⟩
  · have e1 : outPO t l = ([], tcode t l true) := by unfold outPO; rw [if_neg h0]
    rw [e1]
    have bad : ∀ k : Int, tcode t l true = k → (k = 1 ∨ k = 2 ∨ k = 4) → Calls Try.prog 16 #[.slice A t.length c, .slice B l.length c'] w (POQ ([], k) w) := by
      intro k hk h3
      have HC0 := Lib.hid (HC.out k hk)
      clear HC hk e1 h0 hA hB
      rcases h3 with rfl | rfl | rfl
      all_goals
        go_enter Try.func16, Try.ntmps16
        go_wp2_with (go_at_call 25; refine (HC0.out).mono ?_; rintro e w1 ⟨rfl, hb1⟩)
        go_ret2
        exact ⟨_, rfl, FR.nil _ _, hb1⟩
    exact bad _ rfl (by have := tcode_cases t l true; omega)
end Go.Proofs.Ytgdaompppclnlaa
