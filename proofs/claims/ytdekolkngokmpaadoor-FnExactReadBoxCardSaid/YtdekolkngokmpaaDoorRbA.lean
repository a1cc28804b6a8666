/- Boxes read from their texts: the walks of both sides. -/
import Derived.Test.YtdekolkngokmpaaDoorRbP
namespace Go.Proofs.YtdekolkngokmpaaDoor
open Go.RowKit Ieee
open Go.Proofs.YtdekolkngokmpaaDoorW.PrintWords
set_option maxRecDepth 100000
attribute [local irreducible] wpRel
section
variable {ops : Array Oper} {rest : List Oper} {o : Oper} {a : Act} {Q : Exit → Act → World → Prop}
/-- append(v, x) of one whole number, whichever base. -/
theorem apIb (base : Nat) {W : World} {z : Int} (hgd : o.guard = none) (s x : Operand) (ho : o.op = .call { callee := .builtin .append, args := #[s, x], argTypes := #[22, 22] })
    (v : Value) (xs : List Int) (hs : a.eval s = v) (hx : a.eval x = .slice (some ⟨W.heap.size, 0, none⟩) 1 1)
    (HO : RW ki16 31 W base v xs) (hb : base ≤ W.heap.size) (hl : xs.length ≤ 1048576) (h1 : -32768 ≤ z) (h2 : z ≤ 32767)
    (h : ∀ v1 w1, RW ki16 31 w1 base v1 (xs ++ [z]) → W.grownBy w1 v.ownBlock → (v1.ownBlock = v.ownBlock ∨ ∃ b, v1.ownBlock = some b ∧ W.heap.size ≤ b) → wpList Tryd.prog ops Q rest (a.put o.dst v1) w1) :
    wpList Tryd.prog ops Q (o :: rest) a (W.alloc (.cells #[.int .i16 z] 31)) :=
  Kd.R_append ki16 (w0 := W) base hgd s x 22 31 (.int .i16 0) 2 ho Tryd.underlying22 info_i16 rfl (by decide) (by decide) v xs z [.int .i16 z] (fun _ => True) (fun _ => False) hs hx (ki_mkM _ _ _ h1 h2) (fun _ h => h.elim) (fun _ _ => trivial) HO (Below.refl _ _) hb (by omega) fun v1 w1 h1 _ h2 h3 => h v1 w1 h1 h2 h3
end
theorem kS_grown {w w' : World} {b n : Nat} {xs : List (List UInt8)} {row : Option Nat} (h : Kd.C kS w (some ⟨b, 0, none⟩) n xs) (hg : w.grownBy w' row) (hne : some b ≠ row) : Kd.C kS w' (some ⟨b, 0, none⟩) n xs := by
  obtain ⟨h1, h2, h3⟩ := h
  refine ⟨h1, h2, fun hn => ?_⟩
  obtain ⟨ad, e, h4⟩ := h3 hn
  cases e
  refine ⟨_, rfl, fun j p hj => ?_⟩
  obtain ⟨cs, a1, a2, a3⟩ := h4 j p hj
  refine ⟨cs, a1, a2, fun i u hu => hg.cell (a3 i u hu) ?_⟩
  have e : ((⟨b, 0, none⟩ : Addr).add (j * kS.sz + i)).block = b := by unfold Addr.add; split <;> rfl
  rw [e]; exact hne
/-- What reading a box answers. -/
def RbQ (l : List UInt8) (w : World) (e : Ending) (w' : World) : Prop :=
  (∃ v, e = .returned (.tuple #[v, .int .i64 (rbC l)]) ∧ RW ki16 31 w' w.heap.size v (rbV l)) ∧ Below w.heap.size w w'
theorem map_snoc {α : Type} (f : List UInt8 → α) (ws : List (List UInt8)) (k : Nat) (hk : k < ws.length) : (ws.take (k + 1)).map f = (ws.take k).map f ++ [f (ws.getD k [])] := by
  rw [List.take_succ_eq_append_getElem hk, List.map_append, List.getD_eq_getElem?_getD, List.getElem?_eq_getElem hk]; rfl
theorem all_snoc (f : List UInt8 → Bool) (ws : List (List UInt8)) (k : Nat) (hk : k < ws.length) (h : (ws.take k).all f = true) (h2 : f (ws.getD k []) = true) : (ws.take (k + 1)).all f = true := by
  rw [List.take_succ_eq_append_getElem hk, List.all_append, h]
  rw [List.getD_eq_getElem?_getD, List.getElem?_eq_getElem hk] at h2
  simpa using h2
theorem all_bad (f : List UInt8 → Bool) (ws : List (List UInt8)) (k : Nat) (hk : k < ws.length) (h2 : f (ws.getD k []) = false) : ws.all f = false := by
  rw [List.getD_eq_getElem?_getD, List.getElem?_eq_getElem hk] at h2
  rw [Bool.eq_false_iff]
  intro h
  rw [List.all_eq_true] at h
  have := h _ (List.getElem_mem hk)
  rw [show (some ws[k]).getD [] = ws[k] from rfl] at h2
  rw [h2] at this; cases this
theorem splC_sz (c : UInt8) : ∀ (l : List UInt8), ∀ x ∈ splC c l, x.length ≤ l.length
  | [], x, h => by simp [splC] at h; subst h; exact Nat.le_refl _
  | b :: l, x, h => by
    have ih := splC_sz c l
    obtain ⟨p, t, e⟩ := splC_cons c l
    unfold splC at h
    by_cases hb : b = c
    · rw [if_pos hb] at h
      rcases List.mem_cons.1 h with rfl | h
      · simp
      · have := ih x h; simp only [List.length_cons]; omega
    · rw [if_neg hb, e] at h
      rw [e] at ih
      rcases List.mem_cons.1 h with rfl | h
      · have := ih p List.mem_cons_self; simp only [List.length_cons, List.headD_cons]; omega
      · have := ih x (List.mem_cons_of_mem _ h); simp only [List.length_cons]; omega
theorem rb_no {l : List UInt8} (h : rbOk l = false) : rbV l = [] ∧ rbC l = 5 := by unfold rbV rbC; rw [h]; exact ⟨rfl, rfl⟩
theorem rb_yes {l : List UInt8} (h : rbOk l = true) : rbV l = (splC 32 l).map wV ∧ rbC l = 0 := by unfold rbV rbC; rw [h]; exact ⟨rfl, rfl⟩
set_option maxHeartbeats 4000000 in
theorem readBox_spec (s : ByteArray) (hs : s.size ≤ 1048576) (w : World) :
    Calls Tryd.prog 9 #[.string s] w (RbQ s.data.toList w) := by
  have hwl := splC_len 32 s.data.toList
  have hsl : s.data.toList.length = s.size := rfl
  have hwz := splC_sz 32 s.data.toList
  have HSP := Lib.hid (l01Split_any s 32 hs w)
  have HNo := Lib.hid (fun h => rb_no (l := s.data.toList) h)
  have HYes := Lib.hid (fun h => rb_yes (l := s.data.toList) h)
  have HOk : Hid (rbOk s.data.toList = ((splC 32 s.data.toList).all wOk && boxOk ((splC 32 s.data.toList).map wV))) := Lib.hid rfl
  unfold RbQ
  obtain ⟨rv, hrv⟩ : ∃ x, rbV s.data.toList = x := ⟨_, rfl⟩
  obtain ⟨rc, hrc⟩ : ∃ x, rbC s.data.toList = x := ⟨_, rfl⟩
  obtain ⟨rok, hrok⟩ : ∃ x, rbOk s.data.toList = x := ⟨_, rfl⟩
  rw [hrv, hrc] at HNo HYes ⊢
  rw [hrok] at HNo HYes HOk
  clear hrv hrc hrok
  obtain ⟨ws, hws⟩ : ∃ ws, splC 32 s.data.toList = ws := ⟨_, rfl⟩
  rw [hws] at hwl hwz HSP HYes HOk
  clear hws
  have HWL := Lib.hid (show ws.length ≤ 1048577 by omega)
  have HWZ := Lib.hid (fun (x : List UInt8) hx => show x.length ≤ 1048577 by have := hwz x hx; omega)
  clear hwl hwz hsl
  go_enter Tryd.func9, Tryd.ntmps9
  go_wp2_with fail
  go_at_call 18
  refine (HSP.out).mono ?_
  rintro e w1 ⟨v1, rfl, h1, hb1⟩
  obtain ⟨A, c, hv1, hc1, hC1⟩ := RW.reads h1
  subst hv1
  have HC := Lib.hid hC1
  clear h1 hC1
  have HR0 := Lib.hid (RW.empty (w := w1.alloc (.cells #[] 31)) ki16 31 w1.heap.size w1.heap.size (heap_alloc_new w1 _) (Nat.le_refl _))
  have hw1s := hb1.size
  go_wp2
  go_loopw [5, 6, 7, 8] (fun v i _ _ wr => ∃ k : Nat, k ≤ ws.length ∧ i = .int .i64 k ∧ Hid ((ws.take k).all wOk = true) ∧ Hid (RW ki16 31 wr w1.heap.size v ((ws.take k).map wV)) ∧ Below w.heap.size w wr ∧ Below w1.heap.size w1 wr) (fun _ i _ _ _ => ws.length - (intOf i).toNat)
  case atStart => exact ⟨0, Nat.zero_le _, rfl, Lib.hid rfl, HR0, balloc hb1 _, balloc (Below.refl _ _) _⟩
  case round =>
    clear HR0
    obtain ⟨k, hk, rfl, HA, HR, hb, hb1r⟩ := hrel
    have hlen := HWL.out
    by_cases hlt : k < ws.length
    · obtain ⟨b, off, rfl, hbl, c0⟩ := at_kS HC.out k hlt
      have d0 := (bc hb1r b (off + k) hbl).trans c0
      have l0 : b < wr.heap.size := Nat.lt_of_lt_of_le hbl hb1r.size
      have x1 : (k : Int) < (ws.length : Int) := by omega
      have x2 : (0 : Int) ≤ (k : Int) := by omega
      have hsz := getD_size HWZ.out hlt
      have HN := Lib.hid (l01Number_any ⟨(ws.getD k []).toArray⟩ hsz)
      have HA2 := Lib.hid (fun h => all_snoc wOk ws k hlt HA.out h)
      have HB2 := Lib.hid (fun h => all_bad wOk ws k hlt h)
      have HM := Lib.hid (map_snoc wV ws k hlt)
      have HL := Lib.hid (show ((ws.take k).map wV).length ≤ 1048576 by rw [List.length_map, List.length_take]; omega)
      obtain ⟨l, hl⟩ : ∃ l, ws.getD k [] = l := ⟨_, rfl⟩
      rw [hl] at d0 HN HA2 HB2 HM
      have e1 : (⟨l.toArray⟩ : ByteArray).data.toList = l := rfl
      rw [e1] at HN
      clear hl c0 hsz e1
      have bad : wOk l = false → (rv = [] ∧ rc = 5) := fun h => HNo.out (by rw [HOk.out, HB2.out h]; rfl)
      have HBad := Lib.hid bad
      clear bad
      have HR1 := Lib.hid (fun W (h : Below wr.heap.size wr W) => RW.empty (w := W.alloc (.cells #[] 31)) ki16 31 w.heap.size W.heap.size (heap_alloc_new W _) (Nat.le_trans hb.size h.size))
      obtain ⟨wo, hwo⟩ : ∃ wo : World, wo = wr := ⟨_, rfl⟩
      subst hwo
      cases hok : nmOk l
      · obtain ⟨rfl, rfl⟩ := HBad.out (by unfold wOk; rw [hok]; rfl)
        rw [hok] at HN
        clear hok
        go_wp2_with (go_at_call 19; refine (HN.out _).mono ?_; rintro e w2 ⟨⟨r, rfl, hr⟩, rfl⟩)
        go_ret2
        exact ⟨⟨_, rfl, HR1.out _ (Below.refl _ _)⟩, balloc hb _⟩
      · rw [hok] at HN
        have HN2 := Lib.hid (fun w => (HN.out w).mono (R' := fun e w' => e = .returned (.tuple #[.int .i64 (nmV l 0 : Nat), .bool true]) ∧ w = w') (by
          rintro e w' ⟨⟨r, rfl, hr⟩, rfl⟩
          rw [hr rfl]; exact ⟨rfl, rfl⟩))
        clear HN
        by_cases h200 : nmV l 0 ≤ 200
        · have hw : wOk l = true := by unfold wOk; rw [hok, decide_eq_true h200]; rfl
          have HA3 := Lib.hid (HA2.out hw)
          have HM3 : Hid ((ws.take (k + 1)).map wV = (ws.take k).map wV ++ [((nmV l 0 : Nat) : Int)]) := HM
          clear hok hw
          obtain ⟨n, hn⟩ : ∃ n : Nat, nmV l 0 = n := ⟨_, rfl⟩
          rw [hn] at HN2 HM3 h200
          clear hn
          have x3 : (n : Int) ≤ 200 := by omega
          have x4 : (0 : Int) ≤ (n : Int) := by omega
          clear h200
          go_wp2_with (first | (go_at_call 19; refine (HN2.out _).mono ?_; rintro e w2 ⟨rfl, rfl⟩) | (at_builtin; go_must ((refine apIb w1.heap.size (o := ⟨some 37, _, _, _, _, _⟩) rfl (.tmp 33) (.tmp 36) rfl u5 ((ws.take k).map wV) ?y37 ?x37 ?o37 ?b37 HL.out (by omega) (by omega) ?_; (case y37 => rfl); (case x37 => go_simp); (case o37 => exact HR.out); (case b37 => have := hb1r.size ; simp ; omega); intro v37 w37 ho_ hg_ hat_; have HO37 := Lib.hid ho_; have HG37 := Lib.hid (And.intro hg_ hat_); clear ho_ hg_ hat_))))
          go_roundw
          case rel => exact ⟨k + 1, hlt, by go_num, HA3, Lib.hid (by rw [HM3.out]; exact HO37.out), hb.grown HG37.out.1 hb.size (fun j hj => Nat.le_trans hw1s (HR.out.base_le j hj)), hb1r.grown HG37.out.1 hb1r.size (fun j hj => HR.out.base_le j hj)⟩
          case measure => simp [intOf]; omega
        · obtain ⟨rfl, rfl⟩ := HBad.out (by unfold wOk; rw [decide_eq_false h200]; simp)
          clear hok
          obtain ⟨n, hn⟩ : ∃ n : Nat, nmV l 0 = n := ⟨_, rfl⟩
          rw [hn] at HN2 h200
          clear hn
          have x3 : (200 : Int) < (n : Int) := by omega
          clear h200
          go_wp2_with (go_at_call 19; refine (HN2.out _).mono ?_; rintro e w2 ⟨rfl, rfl⟩)
          go_ret2
          exact ⟨⟨_, rfl, HR1.out _ (Below.refl _ _)⟩, balloc hb _⟩
    · obtain rfl : k = ws.length := by omega
      rw [List.take_length] at HA HR
      obtain ⟨A', c', hv, hc', hC⟩ := RW.reads HR.out
      subst hv
      rw [List.length_map] at hC hc' ⊢
      have HC2 := Lib.hid hC
      have HO := Lib.hid (fun (h : ki16.C wr A' ws.length (ws.map wV)) => by have := l05Ok_any A' c' (ws.map wV) wr (by rw [List.length_map]; exact h) (by rw [List.length_map]; omega); rw [List.length_map] at this; exact this)
      have HO2 := Lib.hid (HO.out hC)
      clear HO hC hlt
      have HOk2 := HOk.out
      rw [HA.out, Bool.true_and] at HOk2
      rw [← HOk2] at HO2
      cases rok
      · obtain ⟨rfl, rfl⟩ := HNo.out rfl
        have HR1 := Lib.hid (fun W (h : Below wr.heap.size wr W) => RW.empty (w := W.alloc (.cells #[] 31)) ki16 31 w.heap.size W.heap.size (heap_alloc_new W _) (Nat.le_trans hb.size h.size))
        clear HOk2
        go_wp2_with (go_at_call 13; refine (HO2.out).mono ?_; rintro e w2 ⟨rfl, hb2⟩)
        go_ret2
        exact ⟨⟨_, rfl, HR1.out _ hb2⟩, balloc (bstep hb hb2) _⟩
      · obtain ⟨rfl, rfl⟩ := HYes.out rfl
        clear HOk2
        go_wp2_with (go_at_call 13; refine (HO2.out).mono ?_; rintro e w2 ⟨rfl, hb2⟩)
        go_ret2
        exact ⟨⟨_, rfl, (by have h := HR.out; rw [List.length_map] at h; exact (h.below hb2).lower hw1s)⟩, bstep hb hb2⟩
set_option maxHeartbeats 4000000 in
theorem readBox_impl (s : ByteArray) (hs : s.size ≤ 1048576) (m : Int) (w : World) (hm : w.cell? ⟨1, 0, none⟩ = some (.int .i64 m)) (hE : ErrsW w) (hT : Lib.TabIs Tryd.prog w "internal/strconv.uint64pow10" .u64 Lib.pow10Tab) :
    Calls Tryd.prog 10 #[.string s] w (RbQ s.data.toList w) := by
  have hwl := splC_len 32 s.data.toList
  have hsl : s.data.toList.length = s.size := rfl
  have hwz := splC_sz 32 s.data.toList
  have hm0 : 1 < w.heap.size := Lib.lt_of_cell hm
  have HSP := Lib.hid (fun W (hB : Below w.heap.size w W) => (split_any 32 s m W (by omega) ((bc hB 1 0 hm0).trans hm)).mono (R' := fun e w' => ∃ b : Nat, e = .returned (.slice (some ⟨b, 0, none⟩) (splC 32 s.data.toList).length (splC 32 s.data.toList).length) ∧ Kd.C kS w' (some ⟨b, 0, none⟩) (splC 32 s.data.toList).length (splC 32 s.data.toList) ∧ Below W.heap.size W w' ∧ W.heap.size ≤ b) (by
    rintro e w' ⟨rfl, h1, h2⟩
    exact ⟨_, rfl, h1, h2, Nat.le_refl _⟩))
  have HEr := Lib.hid hE
  have HTb := Lib.hid hT
  have HNo := Lib.hid (fun h => rb_no (l := s.data.toList) h)
  have HYes := Lib.hid (fun h => rb_yes (l := s.data.toList) h)
  have HOk := Lib.hid (rbOk_cnt s.data.toList)
  have HTx := Lib.hid (fun h => bx_text s h)
  unfold RbQ
  obtain ⟨rv, hrv⟩ : ∃ x, rbV s.data.toList = x := ⟨_, rfl⟩
  obtain ⟨rc, hrc⟩ : ∃ x, rbC s.data.toList = x := ⟨_, rfl⟩
  obtain ⟨rok, hrok⟩ : ∃ x, rbOk s.data.toList = x := ⟨_, rfl⟩
  rw [hrv, hrc] at HNo HYes ⊢
  rw [hrok] at HNo HYes HOk
  clear hrv hrc hrok
  obtain ⟨ws, hws⟩ : ∃ ws, splC 32 s.data.toList = ws := ⟨_, rfl⟩
  rw [hws] at hwl hwz HSP HYes HOk HTx
  clear hws
  have HWL := Lib.hid (show ws.length ≤ 1048577 by omega)
  have HWZ := Lib.hid (fun (x : List UInt8) hx => show x.length ≤ 1048577 by have := hwz x hx; omega)
  clear hwl hwz hsl hm hE hT hm0
  have HR00 := Lib.hid (RW.empty (w := w.alloc (.cells #[] 31)) ki16 31 w.heap.size w.heap.size (heap_alloc_new w _) (Nat.le_refl _))
  have hb0 := balloc (Below.refl w.heap.size w) (.cells #[] 31)
  go_enter Tryd.func10, Tryd.ntmps10
  go_wp2_with fail
  go_at_call 20
  refine (HSP.out _ hb0).mono ?_
  rintro e w1 ⟨b, rfl, hC1, hb1, hbb0⟩
  have HNB := Lib.hid (fun (k : Nat) (hk : (Value.slice (some (⟨w.heap.size, 0, none⟩ : Addr)) 0 0).ownBlock = some k) => show k ≠ b by
    have h1 : (w.alloc (.cells #[] 31)).heap.size = w.heap.size + 1 := by simp
    have h2 : w.heap.size = k := by simpa [Value.ownBlock] using hk
    omega)
  clear hbb0
  have HC := Lib.hid hC1
  have hb01 := bstep hb0 hb1
  have HR0 := Lib.hid (HR00.out.below hb1)
  clear hC1 HR00 hb0
  go_wp2
  go_loopw [4, 6, 7, 8, 13] (fun v _ _ _ i wr => ∃ k : Nat, k ≤ ws.length ∧ i = .int .i64 k ∧ Hid ((ws.take k).all cntOk = true) ∧ Hid (RW ki16 31 wr w.heap.size v ((ws.take k).map wV)) ∧ Below w.heap.size w wr ∧ Hid (Kd.C kS wr (some ⟨b, 0, none⟩) ws.length ws) ∧ Hid (∀ k, v.ownBlock = some k → k ≠ b)) (fun _ _ _ _ i _ => ws.length - (intOf i).toNat)
  case atStart => exact ⟨0, Nat.zero_le _, rfl, Lib.hid rfl, HR0, hb01, HC, HNB⟩
  case round =>
    clear HR0 hb01 HC hb1 HNB
    obtain ⟨k, hk, rfl, HA, HR, hb, HC, HNB⟩ := hrel
    have hlen := HWL.out
    by_cases hlt : k < ws.length
    · obtain ⟨b', off, hA', hbl, d0⟩ := at_kS HC.out k hlt
      cases hA'
      have x1 : (k : Int) < (ws.length : Int) := by omega
      have x2 : (0 : Int) ≤ (k : Int) := by omega
      have hsz := getD_size HWZ.out hlt
      have HN := Lib.hid (count_any ⟨(ws.getD k []).toArray⟩ (by omega) wr (HEr.out.below hb) (tab_below HTb.out hb))
      have HA2 := Lib.hid (fun h => all_snoc cntOk ws k hlt HA.out h)
      have HB2 := Lib.hid (fun h => all_bad cntOk ws k hlt h)
      have HM := Lib.hid (map_snoc wV ws k hlt)
      have HL := Lib.hid (show ((ws.take k).map wV).length ≤ 1048576 by rw [List.length_map, List.length_take]; omega)
      obtain ⟨l, hl⟩ : ∃ l, ws.getD k [] = l := ⟨_, rfl⟩
      rw [hl] at d0 HN HA2 HB2 HM
      have e1 : (⟨l.toArray⟩ : ByteArray).data.toList = l := rfl
      unfold CntQ at HN
      rw [e1] at HN
      clear hl hsz e1
      simp only [Nat.zero_add] at d0
      obtain ⟨wo, hwo⟩ : ∃ wo : World, wo = wr := ⟨_, rfl⟩
      subst hwo
      cases hok : cntOk l
      · obtain ⟨rfl, rfl⟩ := HNo.out (by rw [HOk.out, HB2.out hok]; rfl)
        rw [hok] at HN
        clear hok
        go_wp2_with (go_at_call 21; refine (HN.out).mono ?_; rintro e w2 ⟨⟨r, rfl, hr⟩, hb2⟩)
        go_ret2
        exact ⟨⟨_, rfl, RW.nil _ _ _ _⟩, bstep hb hb2⟩
      · rw [hok] at HN
        have HN2 := Lib.hid (HN.out.mono (R' := fun e w' => e = .returned (.tuple #[.int .i16 (nmV l 0 : Nat), .bool true]) ∧ Below wo.heap.size wo w') (by
          rintro e w' ⟨⟨r, rfl, hr⟩, hb⟩
          rw [hr rfl]; exact ⟨rfl, hb⟩))
        have hn32 : nmV l 0 ≤ 32767 := by
          unfold cntOk p15 at hok
          simp only [Bool.and_eq_true, decide_eq_true_eq] at hok
          exact hok.1.2
        have HA3 := Lib.hid (HA2.out hok)
        have HM3 : Hid ((ws.take (k + 1)).map wV = (ws.take k).map wV ++ [((nmV l 0 : Nat) : Int)]) := HM
        clear HN hok
        obtain ⟨n, hn⟩ : ∃ n : Nat, nmV l 0 = n := ⟨_, rfl⟩
        rw [hn] at HN2 HM3 hn32
        clear hn
        go_wp2_with fail
        go_at_call 21
        refine (HN2.out).mono ?_
        rintro e w2 ⟨rfl, hb2⟩
        have HR2 := Lib.hid (HR.out.below hb2)
        have hbb := bstep hb hb2
        have HC2 := Lib.hid (Kd.C_below HC.out hb2)
        have hbl2 := Nat.lt_of_lt_of_le hbl hb2.size
        go_wp2_with (at_builtin; go_must ((refine apIb w.heap.size (o := ⟨some 27, _, _, _, _, _⟩) rfl (.tmp 24) (.tmp 26) rfl u4 ((ws.take k).map wV) ?y27 ?x27 ?o27 ?b27 HL.out (by omega) (by omega) ?_; (case y27 => rfl); (case x27 => go_simp); (case o27 => exact HR2.out); (case b27 => have := hbb.size ; simp ; omega); intro v27 w27 ho_ hg_ hat_; have HO27 := Lib.hid ho_; have HG27 := Lib.hid (And.intro hg_ hat_); clear ho_ hg_ hat_)))
        go_roundw
        case rel =>
          refine ⟨k + 1, hlt, by go_num, HA3, Lib.hid (by rw [HM3.out]; exact HO27.out), hbb.grown HG27.out.1 hbb.size (fun j hj => HR2.out.base_le j hj), Lib.hid (kS_grown HC2.out HG27.out.1 (fun e => HNB.out b e.symm rfl)), Lib.hid (fun j hj => ?_)⟩
          rcases HG27.out.2 with e | ⟨b3, e, h3⟩
          · exact HNB.out j (by rw [← e]; exact hj)
          · rw [e] at hj; injection hj with hj; omega
        case measure => simp [intOf]; omega
    · obtain rfl : k = ws.length := by omega
      rw [List.take_length] at HA HR
      obtain ⟨A', c', hv, hc', hC⟩ := RW.reads HR.out
      subst hv
      have HT := Lib.hid (HTx.out HA.out)
      have HO := Lib.hid (boxText_impl A' c' (ws.map wV) wr hC (by rw [List.length_map]; omega) (tab_below HTb.out hb))
      rw [List.length_map] at HO ⊢
      have HOk2 := HOk.out
      rw [HA.out, Bool.true_and] at HOk2
      rw [← HOk2] at HT
      clear hC hlt HOk2
      obtain ⟨d, hd⟩ : ∃ d : ByteArray, (⟨(bxV (ws.map wV)).toArray⟩ : ByteArray) = d := ⟨_, rfl⟩
      rw [hd] at HO HT
      clear hd
      have hT := HT.out
      cases rok
      · obtain ⟨rfl, rfl⟩ := HNo.out rfl
        go_wp2_with (go_at_call 7; refine (HO.out).mono ?_; rintro e w2 ⟨rfl, hb2⟩)
        go_ret2
        exact ⟨⟨_, rfl, RW.nil _ _ _ _⟩, bstep hb hb2⟩
      · obtain ⟨rfl, rfl⟩ := HYes.out rfl
        go_wp2_with (go_at_call 7; refine (HO.out).mono ?_; rintro e w2 ⟨rfl, hb2⟩)
        go_ret2
        exact ⟨⟨_, rfl, (by have h := HR.out; rw [List.length_map] at h; exact h.below hb2)⟩, bstep hb hb2⟩
end Go.Proofs.YtdekolkngokmpaaDoor
