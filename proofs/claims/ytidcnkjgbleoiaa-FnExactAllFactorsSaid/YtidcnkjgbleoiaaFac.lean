/- All factors of a box: the program's functions. -/
import Derived.Test.YtidcnkjgbleoiaaAllS
import Derived.Test.YtidcnkjgbleoiaaGrG
import Derived.OneCell
import Derived.Great.Walk
namespace Go.Proofs.Ytidcnkjgbleoiaa
open Go.RowKit Ieee
open Go.Proofs.YtidcnkjgbleoiaaW.PrintWords
set_option maxRecDepth 100000
attribute [local irreducible] wpRel
theorem quotientI_any (p q : Int) (w : World) :
    Calls Try.prog 39 #[.int .i16 p, .int .i16 q] w (UpQ p q w) := by
  go_enter Try.func39, Try.ntmps39
  go_wp2_with (refine wpList_fop (o := ⟨some 9, _, _, _, _, _⟩) rfl rfl (by first | exact .inl rfl | exact .inr (.inl rfl) | exact .inr (.inr (.inl rfl)) | exact .inr (.inr (.inr rfl))) rfl rfl ?_; intro r9 n9 h9)
  have hv : FV r9 (upV p q) := by rw [cn_fi, cn_fi] at h9; exact h9
  go_ret
  exact ⟨r9, rfl, hv, Drew.mk _ _⟩
/-- A variable of the call's own that holds a row of the call's own. -/
def Cel (base pb : Nat) (xs : List Nat) (w : World) : Prop := ∃ v, w.heap[pb]? = some (.cells #[v] 23 (0, 0)) ∧ RW kf 32 w base v xs
theorem Cel.ne {base pb : Nat} {xs : List Nat} {w : World} {u v : Value} (h : w.heap[pb]? = some (.cells #[u] 23 (0, 0))) (hr : RW kf 32 w base v xs) : ∀ k, v.ownBlock = some k → k ≠ pb := by
  rintro k hk rfl
  obtain ⟨c, e⟩ := Kd.R_typed hr k hk
  rw [h] at e
  injection e with e
  injection e with _ e
  exact absurd e (by decide)
theorem Cel.below {base pb : Nat} {xs : List Nat} {w w' : World} (h : Cel base pb xs w) (hb : Below w.heap.size w w') : Cel base pb xs w' := by
  obtain ⟨v, h1, h2⟩ := h
  exact ⟨v, (hb.block pb (lt_of_block h1)).trans h1, h2.below hb⟩
set_option maxHeartbeats 2000000 in
theorem factors1_any (base pb : Nat) (xs : List Nat) (a b : Int) (r x : Nat) (w : World) (hC : Cel base pb xs w) (hpb : base ≤ pb) (hr : FV r x) (hl : xs.length ≤ 10000) :
    Calls Try.prog 35 #[.int .i64 a, .int .i64 b, .float .f32 r, .pointer (some ⟨pb, 0, none⟩)] w fun e w' => e = .returned (.tuple #[]) ∧ Cel base pb (xs ++ [x]) w' ∧ Below base w w' := by
  obtain ⟨v, h1, h2⟩ := hC
  have c0 := cell_of_one h1
  have hlt := lt_of_block h1
  have hne := Cel.ne h1 h2
  have HR := Lib.hid h2
  have H1 := Lib.hid h1
  have HV := Lib.hid hr
  have HN := Lib.hid hne
  have HPB := Lib.hid hpb
  have hbs : base ≤ w.heap.size := by omega
  have HBS := Lib.hid hbs
  clear h1 h2 hr hne hpb
  go_enter Try.func35, Try.ntmps35
  go_wp2_with (at_builtin; go_must (refine apFb base (o := ⟨some 10, _, _, _, _, _⟩) rfl (.tmp 7) (.tmp 9) rfl v xs ?fy10 ?fx10 HR.out HBS.out (by omega) HV.out ?_; (case fy10 => first | rfl | go_simp); (case fx10 => first | rfl | go_simp); intro v10 w10 ho_ hg_ hat_; (obtain ⟨A10, k10, n10, hv10⟩ : ∃ (A : Option Addr) (k n : Nat), v10 = .slice A n k := (by obtain ⟨A, k, e, _, _⟩ := RW.reads ho_; exact ⟨A, k, _, e⟩)); subst hv10; (have HO10 := Lib.hid ho_); (have HG10 := Lib.hid hg_); (have c10 := (hg_.block pb hlt (fun e => HN.out pb e.symm rfl)).trans H1.out); (have HC10 := Lib.hid c10); (have d10 := cell_of_one c10); (have f10 := free_of_one c10); (have l10 := lt_of_block c10); clear ho_ hg_ hat_ c10))
  have hne10 := Cel.ne HC10.out HO10.out
  refine Go.Great.bodyPost_end0 (by kernel_rfl) rfl ⟨rfl, ⟨_, one_setCell HC10.out, RW.setOut HO10.out rfl hne10 _⟩, ?_⟩
  exact ((Below.refl base w).grown HG10.out HBS.out (fun k hk => HR.out.base_le k hk)).setCell HPB.out _
set_option maxHeartbeats 4000000 in
theorem pairsF_any (A : Option Addr) (c : Nat) (l : List Int) (w0 : World) (hA : Kd.C ki16 w0 A l.length l) (hm : l.length ≤ 24) (hw : allW l) (pb : Nat) (hpb : w0.heap.size ≤ pb) (w : World) (hb0 : Below w0.heap.size w0 w) (hC : Cel w0.heap.size pb [] w) :
    Calls Try.prog 34 #[.slice A l.length c, .func (.func 35) #[] #[.pointer (some ⟨pb, 0, none⟩)]] w fun e w' => e = .returned (.tuple #[]) ∧ Cel w0.heap.size pb (qs l) w' ∧ Below w0.heap.size w0 w' := by
  have HA := Lib.hid hA
  have HW := Lib.hid hw
  have HPB := Lib.hid hpb
  have HC := Lib.hid hC
  clear hA hw hpb hC
  go_enter Try.func34, Try.ntmps34
  go_wp2
  go_loopw [4, 5, 8] (fun _ _ i wr => ∃ a : Nat, a ≤ l.length ∧ i = .int .i64 a ∧ Hid (Cel w0.heap.size pb (qsTo l a) wr) ∧ Below w0.heap.size w0 wr) (fun _ _ i _ => l.length - (intOf i).toNat)
  case atStart => exact ⟨0, Nat.zero_le _, rfl, HC, hb0⟩
  case round =>
    clear HC hb0
    obtain ⟨a, ha, rfl, HC, hb⟩ := hrel
    by_cases hlt : a < l.length
    · go_wp2
      obtain ⟨wo, hwo⟩ : ∃ wo : World, wo = wr := ⟨_, rfl⟩
      subst hwo
      go_loopw [5, 13] (fun _ k wr => ∃ b : Nat, b ≤ l.length ∧ k = .int .i64 b ∧ Hid (Cel w0.heap.size pb (qsTo l a ++ qsRow l a b) wr) ∧ Below w0.heap.size w0 wr) (fun _ k _ => l.length - (intOf k).toNat)
      case atStart => exact ⟨0, Nat.zero_le _, rfl, Lib.hid (by rw [show qsRow l a 0 = [] from rfl, List.append_nil]; exact HC.out), hb⟩
      case round =>
        clear HC hb
        obtain ⟨b, hbl, rfl, HC, hb⟩ := hrel
        by_cases hlb : b < l.length
        · by_cases hab : a = b
          · subst hab
            have HC2 : Hid (Cel w0.heap.size pb (qsTo l a ++ qsRow l a (a + 1)) wr) := Lib.hid (by rw [qsRow, if_pos rfl]; exact HC.out)
            go_wp2
            go_roundw
            case rel => exact ⟨a + 1, hlb, by go_num, HC2, hb⟩
            case measure => simp [intOf]; omega
          · have hab' : ¬ ((a : Int) = (b : Int)) := by omega
            have hx1 : (a : Int) < (l.length : Int) := by omega
            have hx2 : (b : Int) < (l.length : Int) := by omega
            have hx3 : (0 : Int) ≤ (a : Int) := by omega
            have hx4 : (0 : Int) ≤ (b : Int) := by omega
            obtain ⟨bk, off, rfl, hbk, c0, _, _⟩ := at_ki HA.out a hlt
            have c1 := at_ki1 HA.out b hlb bk off rfl
            have d0 := (bc hb bk (off + a) hbk).trans c0
            have d1 := (bc hb bk (off + b) hbk).trans c1
            have hl0 : bk < wr.heap.size := Nat.lt_of_lt_of_le hbk hb.size
            have HX := Lib.hid (show qsTo l a ++ qsRow l a (b + 1) = (qsTo l a ++ qsRow l a b) ++ [fq l a b] by rw [qsRow, if_neg hab, List.append_assoc])
            have hlen : (qsTo l a ++ qsRow l a b).length ≤ 1000 := by
              have h2 := qsTo_len l a
              have h3 := qsRow_len l a b
              have h4 : a * l.length ≤ 24 * 24 := Nat.mul_le_mul (by omega) hm
              rw [List.length_append]
              omega
            have HLN := Lib.hid hlen
            have HQ := Lib.hid (show upV (l.getD a 0) (l.getD b 0) = fq l a b from rfl)
            clear c0 c1 hlen
            obtain ⟨p, hp⟩ : ∃ p, l.getD a 0 = p := ⟨_, rfl⟩
            obtain ⟨q, hq⟩ : ∃ q, l.getD b 0 = q := ⟨_, rfl⟩
            obtain ⟨own, ho⟩ : ∃ x, fq l a b = x := ⟨_, rfl⟩
            obtain ⟨out, hout⟩ : ∃ x, qsTo l a ++ qsRow l a b = x := ⟨_, rfl⟩
            rw [hp] at d0 HQ
            rw [hq] at d1 HQ
            rw [ho] at HQ HX
            rw [hout] at HC HX HLN
            clear hp hq ho hout
            obtain ⟨wi, hwi⟩ : ∃ wi : World, wi = wr := ⟨_, rfl⟩
            subst hwi
            go_wp2
            first | refine region_tailN (DFv (upV p q)) 12 (by kernel_rfl) (by kernel_rfl) ?_ | refine region_tail (DFv (upV p q)) 12 (by kernel_rfl) (by kernel_rfl) ?_
            repeat (first | (refine wpRel_plain rfl (fun K hK => ?_); intro w' hw'; obtain ⟨n', rfl⟩ := hw'; go_simp; refine ⟨?_, fun v hv => ?_⟩; (go_at_call 39; refine (quotientI_any p q _).mono ?_; rintro e w'' ⟨r_, rfl, hr_, hd_⟩; exact ⟨_, rfl, ⟨r_, rfl, hr_⟩, (Drew.mk _ _).trans hd_⟩); obtain ⟨r30, rfl, h30⟩ := hv; (refine hK _ ?_; clear hK K n')) | (refine wpRel_plain rfl (fun K hK => ?_); intro w' hw'; obtain ⟨n', rfl⟩ := hw'; go_simp; refine ⟨Drew.mk _ _, hK _ ?_⟩; clear hK K n'))
            (refine wpRel_nil ?_; intro w' hw'; obtain ⟨nq, rfl⟩ := hw')
            simp only [List.drop]
            have HF := Lib.hid (show FV r30 own by rw [← HQ.out]; exact h30)
            clear h30 d0 d1
            have hb1 := bdrewN hb nq
            have HC1 := Lib.hid (HC.out.below (bdrewN (Below.refl _ _) nq))
            go_wp2_with fail
            go_at_call 35
            refine (factors1_any w0.heap.size pb out a b r30 own (wi.drewN nq) HC1.out HPB.out HF.out (by have := HLN.out; omega)).mono ?_
            rintro e w2 ⟨rfl, hC2, hb2⟩
            have HC2 := Lib.hid hC2
            clear hC2
            have hbb := hb1.trans hb2
            go_wp2
            go_roundw
            case rel => exact ⟨b + 1, hlb, by go_num, Lib.hid (by rw [HX.out]; exact HC2.out), hbb⟩
            case measure => simp [intOf]; omega
        · obtain rfl : b = l.length := by omega
          go_wp2
          go_roundw
          case rel => exact ⟨a + 1, hlt, by go_num, HC, hb⟩
          case measure => simp [intOf]; omega
    · obtain rfl : a = l.length := by omega
      go_wp2
      exact Go.Great.bodyPost_end0 (by kernel_rfl) rfl ⟨rfl, HC.out, hb⟩
end Go.Proofs.Ytidcnkjgbleoiaa
