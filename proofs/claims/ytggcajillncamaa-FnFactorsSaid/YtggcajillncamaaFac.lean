/- All factors of a box: the program's functions. All factors of a box: both sides. Marks on rows of whole numbers, whatever comes; rows of floats compared and held. -/
import Derived.Test.YtggcajillncamaaAllS
import Derived.Test.YtggcajillncamaaGrG
import Derived.OneCell
import Derived.Great.Walk
import Derived.Test.YtggcajillncamaaBx
namespace Go.Proofs.Ytggcajillncamaa
open Go.RowKit Ieee
open Go.Proofs.YtggcajillncamaaW.PrintWords
set_option maxRecDepth 100000
attribute [local irreducible] wpRel
theorem quotientI_any (p q : Int) (w : World) :
    Calls Try.prog 68 #[.int .i16 p, .int .i16 q] w (UpQ p q w) := by
  go_enter Try.func68, Try.ntmps68
  go_wp2_with (refine wpList_fop (o := ⟨some 9, _, _, _, _, _⟩) rfl rfl (by first | exact .inl rfl | exact .inr (.inl rfl) | exact .inr (.inr (.inl rfl)) | exact .inr (.inr (.inr rfl))) rfl rfl ?_; intro r9 n9 h9)
  have hv : FV r9 (upV p q) := by rw [cn_fi, cn_fi] at h9; exact h9
  go_ret
  exact ⟨r9, rfl, hv, Drew.mk _ _⟩
/-- A variable of the call's own that holds a row of the call's own. -/
def Cel (base pb : Nat) (xs : List Nat) (w : World) : Prop := ∃ v, w.heap[pb]? = some (.cells #[v] 28 (0, 0)) ∧ RW kf 26 w base v xs
theorem Cel.ne {base pb : Nat} {xs : List Nat} {w : World} {u v : Value} (h : w.heap[pb]? = some (.cells #[u] 28 (0, 0))) (hr : RW kf 26 w base v xs) : ∀ k, v.ownBlock = some k → k ≠ pb := by
  rintro k hk rfl
  obtain ⟨c, e⟩ := Kd.R_typed hr k hk
  rw [h] at e
  injection e with e
  injection e with _ e
  exact absurd e (by decide)
theorem Cel.below {base pb : Nat} {xs : List Nat} {w w' : World} (h : Cel base pb xs w) (hb : Below w.heap.size w w') : Cel base pb xs w' := by
  obtain ⟨v, h1, h2⟩ := h
  exact ⟨v, (hb.block pb (lt_of_block h1)).trans h1, h2.below hb⟩
set_option maxHeartbeats 2000000 in
theorem factors1_any (base pb : Nat) (xs : List Nat) (a b : Int) (r x : Nat) (w : World) (hC : Cel base pb xs w) (hpb : base ≤ pb) (hr : FV r x) (hl : xs.length ≤ 10000) :
    Calls Try.prog 48 #[.int .i64 a, .int .i64 b, .float .f32 r, .pointer (some ⟨pb, 0, none⟩)] w fun e w' => e = .returned (.tuple #[]) ∧ Cel base pb (xs ++ [x]) w' ∧ Below base w w' := by
  obtain ⟨v, h1, h2⟩ := hC
  have c0 := cell_of_one h1
  have hlt := lt_of_block h1
  have hne := Cel.ne h1 h2
  have HR := Lib.hid h2
  have H1 := Lib.hid h1
  have HV := Lib.hid hr
  have HN := Lib.hid hne
  have HPB := Lib.hid hpb
  have hbs : base ≤ w.heap.size := by omega
  have HBS := Lib.hid hbs
  clear h1 h2 hr hne hpb
  go_enter Try.func48, Try.ntmps48
  go_wp2_with (at_builtin; go_must (refine apFb base (o := ⟨some 10, _, _, _, _, _⟩) rfl (.tmp 7) (.tmp 9) rfl v xs ?fy10 ?fx10 HR.out HBS.out (by omega) HV.out ?_; (case fy10 => first | rfl | go_simp); (case fx10 => first | rfl | go_simp); intro v10 w10 ho_ hg_ hat_; (obtain ⟨A10, k10, n10, hv10⟩ : ∃ (A : Option Addr) (k n : Nat), v10 = .slice A n k := (by obtain ⟨A, k, e, _, _⟩ := RW.reads ho_; exact ⟨A, k, _, e⟩)); subst hv10; (have HO10 := Lib.hid ho_); (have HG10 := Lib.hid hg_); (have c10 := (hg_.block pb hlt (fun e => HN.out pb e.symm rfl)).trans H1.out); (have HC10 := Lib.hid c10); (have d10 := cell_of_one c10); (have f10 := free_of_one c10); (have l10 := lt_of_block c10); clear ho_ hg_ hat_ c10))
  have hne10 := Cel.ne HC10.out HO10.out
  refine Go.Great.bodyPost_end0 (by kernel_rfl) rfl ⟨rfl, ⟨_, one_setCell HC10.out, RW.setOut HO10.out rfl hne10 _⟩, ?_⟩
  exact ((Below.refl base w).grown HG10.out HBS.out (fun k hk => HR.out.base_le k hk)).setCell HPB.out _
set_option maxHeartbeats 4000000 in
theorem pairsF_any (A : Option Addr) (c : Nat) (l : List Int) (w0 : World) (hA : Kd.C ki16 w0 A l.length l) (hm : l.length ≤ 24) (hw : allW l) (pb : Nat) (hpb : w0.heap.size ≤ pb) (w : World) (hb0 : Below w0.heap.size w0 w) (hC : Cel w0.heap.size pb [] w) :
    Calls Try.prog 47 #[.slice A l.length c, .func (.func 48) #[] #[.pointer (some ⟨pb, 0, none⟩)]] w fun e w' => e = .returned (.tuple #[]) ∧ Cel w0.heap.size pb (qs l) w' ∧ Below w0.heap.size w0 w' := by
  have HA := Lib.hid hA
  have HW := Lib.hid hw
  have HPB := Lib.hid hpb
  have HC := Lib.hid hC
  clear hA hw hpb hC
  go_enter Try.func47, Try.ntmps47
  go_wp2
  go_loopw [4, 5, 8] (fun _ _ i wr => ∃ a : Nat, a ≤ l.length ∧ i = .int .i64 a ∧ Hid (Cel w0.heap.size pb (qsTo l a) wr) ∧ Below w0.heap.size w0 wr) (fun _ _ i _ => l.length - (intOf i).toNat)
  case atStart => exact ⟨0, Nat.zero_le _, rfl, HC, hb0⟩
  case round =>
    clear HC hb0
    obtain ⟨a, ha, rfl, HC, hb⟩ := hrel
    by_cases hlt : a < l.length
    · go_wp2
      obtain ⟨wo, hwo⟩ : ∃ wo : World, wo = wr := ⟨_, rfl⟩
      subst hwo
      go_loopw [5, 13] (fun _ k wr => ∃ b : Nat, b ≤ l.length ∧ k = .int .i64 b ∧ Hid (Cel w0.heap.size pb (qsTo l a ++ qsRow l a b) wr) ∧ Below w0.heap.size w0 wr) (fun _ k _ => l.length - (intOf k).toNat)
      case atStart => exact ⟨0, Nat.zero_le _, rfl, Lib.hid (by rw [show qsRow l a 0 = [] from rfl, List.append_nil]; exact HC.out), hb⟩
      case round =>
        clear HC hb
        obtain ⟨b, hbl, rfl, HC, hb⟩ := hrel
        by_cases hlb : b < l.length
        · by_cases hab : a = b
          · subst hab
            have HC2 : Hid (Cel w0.heap.size pb (qsTo l a ++ qsRow l a (a + 1)) wr) := Lib.hid (by rw [qsRow, if_pos rfl]; exact HC.out)
            go_wp2
            go_roundw
            case rel => exact ⟨a + 1, hlb, by go_num, HC2, hb⟩
            case measure => simp [intOf]; omega
          · have hab' : ¬ ((a : Int) = (b : Int)) := by omega
            have hx1 : (a : Int) < (l.length : Int) := by omega
            have hx2 : (b : Int) < (l.length : Int) := by omega
            have hx3 : (0 : Int) ≤ (a : Int) := by omega
            have hx4 : (0 : Int) ≤ (b : Int) := by omega
            obtain ⟨bk, off, rfl, hbk, c0, _, _⟩ := at_ki HA.out a hlt
            have c1 := at_ki1 HA.out b hlb bk off rfl
            have d0 := (bc hb bk (off + a) hbk).trans c0
            have d1 := (bc hb bk (off + b) hbk).trans c1
            have hl0 : bk < wr.heap.size := Nat.lt_of_lt_of_le hbk hb.size
            have HX := Lib.hid (show qsTo l a ++ qsRow l a (b + 1) = (qsTo l a ++ qsRow l a b) ++ [fq l a b] by rw [qsRow, if_neg hab, List.append_assoc])
            have hlen : (qsTo l a ++ qsRow l a b).length ≤ 1000 := by
              have h2 := qsTo_len l a
              have h3 := qsRow_len l a b
              have h4 : a * l.length ≤ 24 * 24 := Nat.mul_le_mul (by omega) hm
              rw [List.length_append]
              omega
            have HLN := Lib.hid hlen
            have HQ := Lib.hid (show upV (l.getD a 0) (l.getD b 0) = fq l a b from rfl)
            clear c0 c1 hlen
            obtain ⟨p, hp⟩ : ∃ p, l.getD a 0 = p := ⟨_, rfl⟩
            obtain ⟨q, hq⟩ : ∃ q, l.getD b 0 = q := ⟨_, rfl⟩
            obtain ⟨own, ho⟩ : ∃ x, fq l a b = x := ⟨_, rfl⟩
            obtain ⟨out, hout⟩ : ∃ x, qsTo l a ++ qsRow l a b = x := ⟨_, rfl⟩
            rw [hp] at d0 HQ
            rw [hq] at d1 HQ
            rw [ho] at HQ HX
            rw [hout] at HC HX HLN
            clear hp hq ho hout
            obtain ⟨wi, hwi⟩ : ∃ wi : World, wi = wr := ⟨_, rfl⟩
            subst hwi
            go_wp2
            first | refine region_tailN (DFv (upV p q)) 12 (by kernel_rfl) (by kernel_rfl) ?_ | refine region_tail (DFv (upV p q)) 12 (by kernel_rfl) (by kernel_rfl) ?_
            repeat (first | (refine wpRel_plain rfl (fun K hK => ?_); intro w' hw'; obtain ⟨n', rfl⟩ := hw'; go_simp; refine ⟨?_, fun v hv => ?_⟩; (go_at_call 68; refine (quotientI_any p q _).mono ?_; rintro e w'' ⟨r_, rfl, hr_, hd_⟩; exact ⟨_, rfl, ⟨r_, rfl, hr_⟩, (Drew.mk _ _).trans hd_⟩); obtain ⟨r30, rfl, h30⟩ := hv; (refine hK _ ?_; clear hK K n')) | (refine wpRel_plain rfl (fun K hK => ?_); intro w' hw'; obtain ⟨n', rfl⟩ := hw'; go_simp; refine ⟨Drew.mk _ _, hK _ ?_⟩; clear hK K n'))
            (refine wpRel_nil ?_; intro w' hw'; obtain ⟨nq, rfl⟩ := hw')
            simp only [List.drop]
            have HF := Lib.hid (show FV r30 own by rw [← HQ.out]; exact h30)
            clear h30 d0 d1
            have hb1 := bdrewN hb nq
            have HC1 := Lib.hid (HC.out.below (bdrewN (Below.refl _ _) nq))
            go_wp2_with fail
            go_at_call 48
            refine (factors1_any w0.heap.size pb out a b r30 own (wi.drewN nq) HC1.out HPB.out HF.out (by have := HLN.out; omega)).mono ?_
            rintro e w2 ⟨rfl, hC2, hb2⟩
            have HC2 := Lib.hid hC2
            clear hC2
            have hbb := hb1.trans hb2
            go_wp2
            go_roundw
            case rel => exact ⟨b + 1, hlb, by go_num, Lib.hid (by rw [HX.out]; exact HC2.out), hbb⟩
            case measure => simp [intOf]; omega
        · obtain rfl : b = l.length := by omega
          go_wp2
          go_roundw
          case rel => exact ⟨a + 1, hlt, by go_num, HC, hb⟩
          case measure => simp [intOf]; omega
    · obtain rfl : a = l.length := by omega
      go_wp2
      exact Go.Great.bodyPost_end0 (by kernel_rfl) rfl ⟨rfl, HC.out, hb⟩
end Go.Proofs.Ytggcajillncamaa
namespace Go.Proofs.Ytggcajillncamaa
open Go.RowKit Ieee
open Go.Proofs.YtggcajillncamaaW.PrintWords
set_option maxRecDepth 100000
attribute [local irreducible] wpRel
theorem qs_nn {l : List Int} (h : allW l) : allNn (qs l) := qsTo_nn h l.length (Nat.le_refl _)
theorem qs_len {l : List Int} (hm : l.length ≤ 24) : (qs l).length ≤ 576 := by
  have h := qsTo_len l l.length
  have h2 : l.length * l.length ≤ 24 * 24 := Nat.mul_le_mul hm hm
  unfold qs; omega
theorem qs_pos {l : List Int} (h2 : 2 ≤ l.length) : 0 < (qs l).length := by
  have hrow : ∀ k, 2 ≤ k → 0 < (qsRow l 0 k).length := by
    intro k hk
    induction k with
    | zero => omega
    | succ k ih =>
      unfold qsRow
      split
      · omega
      · simp
  have h0 : ∀ a, 1 ≤ a → 0 < (qsTo l a).length := by
    intro a ha
    induction a with
    | zero => omega
    | succ a ih =>
      rw [qsTo, List.length_append]
      by_cases e : a = 0
      · subst e
        have := hrow l.length h2
        omega
      · have := ih (by omega)
        omega
  exact h0 l.length (by omega)
theorem allF_nn {l : List Int} (h : allW l) : allNn (allF l) := insA_nn (qs_nn h) (fun x hx => by cases hx)
theorem allF_len {l : List Int} (hm : l.length ≤ 24) : (allF l).length ≤ 576 := by
  have h := insA_len (qs l) []
  have := qs_len hm
  unfold allF
  simp at h; omega
set_option maxHeartbeats 2000000 in
theorem factors_any (A : Option Addr) (c : Nat) (l : List Int) (w : World) (hA : Kd.C ki16 w A l.length l) (h2 : 2 ≤ l.length) (hm : l.length ≤ 24) (hw : allW l) :
    Calls Try.prog 23 #[.slice A l.length c] w fun e w' => ∃ v, e = .returned v ∧ RW kf 26 w' w.heap.size v (allF l) ∧ Below w.heap.size w w' := by
  have HP := Lib.hid (fun pb W h1 h2 h3 => pairsF_any A c l w hA hm hw pb h1 W h2 h3)
  have HN := Lib.hid (qs_nn hw)
  have HL := Lib.hid (qs_len hm)
  have HQ := Lib.hid (qs_pos h2)
  have HE := Lib.hid (srtL_cpt HN.out)
  have HS := Lib.hid (srtL_nn HN.out)
  have HSL := Lib.hid (srtL_len HN.out)
  have HR0 := Lib.hid (RW.empty (w := w.alloc (.cells #[] 26)) kf 26 w.heap.size w.heap.size (heap_alloc_new w _) (Nat.le_refl _))
  have hz : w.heap.size ≤ (w.alloc (.cells #[] 26)).heap.size := by simp
  have HZ := Lib.hid hz
  clear hA hw hz
  obtain ⟨q, hq⟩ : ∃ q, qs l = q := ⟨_, rfl⟩
  rw [hq] at HP HN HL HQ HE HS HSL
  have HA2 := Lib.hid (show allF l = insA q [] by unfold allF; rw [hq])
  clear hq
  go_enter Try.func23, Try.ntmps23
  go_wp2_with fail
  go_at_call 47
  refine (HP.out (w.heap.size + 1) _ (by omega) (balloc (balloc (Below.refl _ _) _) _) ⟨_, by have := heap_alloc_new (w.alloc (.cells #[] 26)) (.cells #[.slice (some ⟨w.heap.size, 0, none⟩) 0 0] 28); simpa using this, HR0.out.alloc _⟩).mono ?_
  rintro e w2 ⟨rfl, ⟨v, h1, h2⟩, hb2⟩
  have c2 := cell_of_one h1
  have l2 := lt_of_block h1
  have H1 := Lib.hid h1
  have HV := Lib.hid h2
  have HNE := Lib.hid (Cel.ne h1 h2)
  have hbs2 := hb2.size
  clear h1 h2
  go_wp2_with fail
  go_at_call 49
  refine (sort_any HV.out HN.out HQ.out (by have := HL.out; omega)).mono ?_
  rintro e w3 ⟨rfl, h3, hg3⟩
  have hp3 := (hg3.block (w.heap.size + 1) l2 (fun e => HNE.out _ e.symm rfl)).trans H1.out
  have c3 := cell_of_one hp3
  have l3 := lt_of_block hp3
  have H3 := Lib.hid h3
  have hb3 : Below w.heap.size w w3 := hb2.grown hg3 hbs2 (fun k hk => HV.out.base_le k hk)
  have HG3 := Lib.hid hb3.size
  clear h3 hg3 hp3 c2 l2
  go_wp2_with fail
  go_at_call 50
  refine (compact_any H3.out HS.out (by have := HQ.out; have := HSL.out; omega) (by have := HL.out; have := HSL.out; omega)).mono ?_
  rintro e w4 ⟨v4, rfl, h4, _, hg4⟩
  have H4 := Lib.hid h4
  have hb4 : Below w.heap.size w w4 := hb3.grown hg4 HG3.out (fun k hk => HV.out.base_le k hk)
  clear h4 hg4
  go_wp2
  go_ret
  exact ⟨_, rfl, by rw [HA2.out, ← HE.out]; exact H4.out, hb4⟩
/-- What all factors of a box come to. -/
def AfQ (l : List Int) (w : World) (e : Ending) (w' : World) : Prop :=
  (∃ v, e = .returned (.tuple #[v, .int .i64 (if boxOk l then 0 else 1)]) ∧ RW kf 26 w' w.heap.size v (if boxOk l then allF l else [])) ∧ Below w.heap.size w w'
theorem allFactors_spec (A : Option Addr) (c : Nat) (l : List Int) (w : World) (hA : Kd.C ki16 w A l.length l) (hm : l.length ≤ 1048576) :
    Calls Try.prog 8 #[.slice A l.length c] w (AfQ l w) := by
  unfold AfQ
  cases hk : boxOk l
  · have HO := Lib.hid (show Calls Try.prog 24 #[.slice A l.length c] w fun e w' => e = .returned (.bool false) ∧ Below w.heap.size w w' by have := l05Ok_any A c l w hA (by omega); rw [hk] at this; exact this)
    have HR := Lib.hid (fun W (h : Below w.heap.size w W) => RW.empty (w := W.alloc (.cells #[] 26)) kf 26 w.heap.size W.heap.size (heap_alloc_new W _) h.size)
    clear hA hk
    go_enter Try.func8, Try.ntmps8
    go_wp2_with (go_at_call 24; refine (HO.out).mono ?_; rintro e w1 ⟨rfl, hb1⟩)
    go_ret2
    exact ⟨⟨_, rfl, HR.out _ hb1⟩, balloc hb1 _⟩
  · obtain ⟨hw, h2, h24⟩ := allW_of hk
    have HO := Lib.hid (show Calls Try.prog 24 #[.slice A l.length c] w fun e w' => e = .returned (.bool true) ∧ Below w.heap.size w w' by have := l05Ok_any A c l w hA (by omega); rw [hk] at this; exact this)
    have HF := Lib.hid (fun w1 (h : Below w.heap.size w w1) => l05All_any A c l w1 (Kd.C_below hA h) h24 hw)
    clear hA hk hw
    go_enter Try.func8, Try.ntmps8
    go_wp2_with fail
    go_at_call 24
    refine (HO.out).mono ?_
    rintro e w1 ⟨rfl, hb1⟩
    have hbs1 := hb1.size
    go_wp2_with (go_at_call 25; refine (HF.out _ hb1).mono ?_; rintro e w2 ⟨v, rfl, hr, hb2⟩; (have HR := Lib.hid hr); clear hr)
    go_ret2
    exact ⟨⟨_, rfl, HR.out.lower hbs1⟩, bstep hb1 hb2⟩
theorem allFactors_impl (A : Option Addr) (c : Nat) (l : List Int) (w : World) (hA : Kd.C ki16 w A l.length l) (hm : l.length ≤ 1048576) :
    Calls Try.prog 7 #[.slice A l.length c] w (AfQ l w) := by
  unfold AfQ
  cases hk : boxOk l
  · have HO := Lib.hid (show Calls Try.prog 22 #[.slice A l.length c] w fun e w' => e = .returned (.bool false) ∧ w = w' by have := validBox_impl A c l w hA (by omega); rw [hk] at this; exact this)
    clear hA hk
    go_enter Try.func7, Try.ntmps7
    go_wp2_with (go_at_call 22; refine (HO.out).mono ?_; rintro e w1 ⟨rfl, rfl⟩)
    go_ret2
    exact ⟨⟨_, rfl, RW.nil _ _ _ _⟩, Below.refl _ _⟩
  · obtain ⟨hw, h2, h24⟩ := allW_of hk
    have HO := Lib.hid (show Calls Try.prog 22 #[.slice A l.length c] w fun e w' => e = .returned (.bool true) ∧ w = w' by have := validBox_impl A c l w hA (by omega); rw [hk] at this; exact this)
    have HF := Lib.hid (factors_any A c l w hA h2 h24 hw)
    clear hA hk hw
    go_enter Try.func7, Try.ntmps7
    go_wp2_with (first | (go_at_call 22; refine (HO.out).mono ?_; rintro e w1 ⟨rfl, rfl⟩) | (go_at_call 23; refine (HF.out).mono ?_; rintro e w2 ⟨v, rfl, hr, hb2⟩; (have HR := Lib.hid hr); clear hr))
    go_ret2
    exact ⟨⟨_, rfl, HR.out⟩, hb2⟩
end Go.Proofs.Ytggcajillncamaa
namespace Go.Proofs.Ytggcajillncamaa
open Go.RowKit Ieee
open Go.Proofs.YtggcajillncamaaW.PrintWords
set_option maxRecDepth 100000
attribute [local irreducible] wpRel
end Go.Proofs.Ytggcajillncamaa
