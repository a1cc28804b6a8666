/- The best pair for a target: the model's function. The best pair for a target: the program's function. The best pair for a target: the program's functions. -/
import Derived.Test.YtggcajillncamaaFac
import Derived.Test.YtggcajillncamaaWstP
namespace Go.Proofs.Ytggcajillncamaa
open Go.RowKit Ieee
open Go.Proofs.YtggcajillncamaaW.PrintWords
set_option maxRecDepth 100000
attribute [local irreducible] wpRel
/-- By how much a factor is off a target. -/
def offV (x t : Nat) : Nat := fdiv (sizeV (fsub x t)) t
theorem off_spec (r x s t : Nat) (hr : FV r x) (hs : FV s t) (w : World) : Calls Try.prog 57 #[.float .f32 r, .float .f32 s] w (SizQ (offV x t) w) := by
  have HR := Lib.hid hr
  have HS := Lib.hid hs
  clear hr hs
  go_enter Try.func57, Try.ntmps57
  go_wp2_with (refine wpList_fop (o := ⟨some 7, _, _, _, _, _⟩) rfl rfl (by first | exact .inl rfl | exact .inr (.inl rfl) | exact .inr (.inr (.inl rfl)) | exact .inr (.inr (.inr rfl))) rfl rfl ?_; intro r7 n7 h7)
  rw [HR.out.1, HS.out.1] at h7
  go_at_call 71
  refine (l01Size_any r7 _ h7 _).mono ?_
  rintro e w' ⟨⟨r8, rfl, h8⟩, rfl⟩
  go_wp2_with (refine wpList_fop (o := ⟨some 10, _, _, _, _, _⟩) rfl rfl (by first | exact .inl rfl | exact .inr (.inl rfl) | exact .inr (.inr (.inl rfl)) | exact .inr (.inr (.inr rfl))) rfl rfl ?_; intro r10 n10 h10)
  rw [h8.1, HS.out.1] at h10
  go_ret
  exact ⟨r10, rfl, h10, Drew.mk _ _⟩
theorem off_impl (r x s t : Nat) (hr : FV r x) (hs : FV s t) (w : World) : Calls Try.prog 61 #[.float .f32 r, .float .f32 s] w (SizQ (offV x t) w) := by
  have HR := Lib.hid hr
  have HS := Lib.hid hs
  clear hr hs
  go_enter Try.func61, Try.ntmps61
  go_wp2_with (refine wpList_fop (o := ⟨some 7, _, _, _, _, _⟩) rfl rfl (by first | exact .inl rfl | exact .inr (.inl rfl) | exact .inr (.inr (.inl rfl)) | exact .inr (.inr (.inr rfl))) rfl rfl ?_; intro r7 n7 h7)
  rw [HR.out.1, HS.out.1] at h7
  go_at_call 73
  refine (size_any r7 _ h7 _).mono ?_
  rintro e w' ⟨r8, rfl, h8, hd⟩
  have HD := Lib.hid hd
  clear hd
  go_wp2_with (refine wpList_fop (o := ⟨some 10, _, _, _, _, _⟩) rfl rfl (by first | exact .inl rfl | exact .inr (.inl rfl) | exact .inr (.inr (.inl rfl)) | exact .inr (.inr (.inr rfl))) rfl rfl ?_; intro r10 n10 h10)
  rw [h8.1, HS.out.1] at h10
  go_ret
  exact ⟨r10, rfl, h10, ((Drew.mk _ _).trans HD.out).trans (Drew.mk _ _)⟩
/-- How much a pair is off. -/
def oq (l : List Int) (t a b : Nat) : Nat := offV (fq l a b) t
/-- The best pair so far, behind the first k pairs of a row. -/
def bRow (l : List Int) (t a : Nat) (s : Nat × Nat × Nat) : Nat → Nat × Nat × Nat
  | 0 => s
  | k + 1 => if a = k then bRow l t a s k else if flt (oq l t a k) (bRow l t a s k).2.2 = true then (a, k, oq l t a k) else bRow l t a s k
def bTo (l : List Int) (t : Nat) : Nat → Nat × Nat × Nat
  | 0 => (0, 1, oq l t 0 1)
  | a + 1 => bRow l t a (bTo l t a) l.length
/-- The best pair. -/
def bst (l : List Int) (t : Nat) : Nat × Nat × Nat := bTo l t l.length
/-- A number of a value, in the quotient's slots and the others. -/
def DBst (x y : Nat) : Option Tmp → Value → Prop
  | some 47, v => ∃ r, v = .float .f32 r ∧ FV r y
  | some 21, v => ∃ r, v = .float .f32 r ∧ FV r y
  | _, v => ∃ r, v = .float .f32 r ∧ FV r x
def BsQ (s : Nat × Nat × Nat) (w : World) (e : Ending) (w' : World) : Prop := ∃ r, e = .returned (.tuple #[.int .i64 s.1, .int .i64 s.2.1, .float .f32 r]) ∧ FV r s.2.2 ∧ Below w.heap.size w w'
set_option maxHeartbeats 8000000 in
theorem best_spec (A : Option Addr) (c : Nat) (l : List Int) (s t : Nat) (w : World) (hA : Kd.C ki16 w A l.length l) (h2 : 2 ≤ l.length) (hm : l.length ≤ 24) (hs : FV s t) :
    Calls Try.prog 34 #[.slice A l.length c, .float .f32 s] w (BsQ (bst l t) w) := by
  have HA := Lib.hid hA
  have HS := Lib.hid hs
  obtain ⟨out, hout⟩ : ∃ out, bst l t = out := ⟨_, rfl⟩
  rw [hout]
  have HOUT := Lib.hid hout
  clear hA hs hout
  obtain ⟨bk, off, rfl, hbk, c0, _, _⟩ := at_ki HA.out 0 (by omega)
  have c1 := at_ki1 HA.out 1 (by omega) bk off rfl
  simp only [Nat.add_zero] at c0
  have HQ := Lib.hid (show upV (l.getD 0 0) (l.getD 1 0) = fq l 0 1 from rfl)
  have HO := Lib.hid (show offV (fq l 0 1) t = (bTo l t 0).2.2 from rfl)
  obtain ⟨p, hp⟩ : ∃ p, l.getD 0 0 = p := ⟨_, rfl⟩
  obtain ⟨q, hq⟩ : ∃ q, l.getD 1 0 = q := ⟨_, rfl⟩
  obtain ⟨fo, hfo⟩ : ∃ x, fq l 0 1 = x := ⟨_, rfl⟩
  rw [hp] at c0 HQ
  rw [hq] at c1 HQ
  rw [hfo] at HQ HO
  clear hp hq hfo
  have hl1 : (1 : Int) < (l.length : Int) := by omega
  have hl0 : (0 : Int) < (l.length : Int) := by omega
  have hl0n : 0 < l.length := by omega
  have hne : l ≠ [] := by rintro rfl; simp at h2
  go_enter Try.func34, Try.ntmps34
  go_wp2
  first | refine region_drewN (DBst (upV p q) (offV (upV p q) t)) (by kernel_rfl) (by kernel_rfl) ?_ | refine region_drew (DBst (upV p q) (offV (upV p q) t)) (by kernel_rfl) (by kernel_rfl) ?_
  repeat (first | (refine wpRel_plain rfl (fun K hK => ?_); intro w' hw'; obtain ⟨n', rfl⟩ := hw'; go_simp; refine ⟨?_, fun v hv => ?_⟩; (go_at_call 53; refine (quotient_any p q _).mono ?_; rintro e w'' ⟨r_, rfl, hr_, hd_⟩; exact ⟨_, rfl, ⟨r_, rfl, hr_⟩, (Drew.mk _ _).trans hd_⟩); obtain ⟨r19, rfl, h19⟩ := hv; (refine hK _ ?_; clear hK K n')) | (refine wpRel_plain rfl (fun K hK => ?_); intro w' hw'; obtain ⟨n', rfl⟩ := hw'; go_simp; refine ⟨?_, fun v hv => ?_⟩; (go_at_call 57; refine (off_spec _ _ s t h19 HS.out _).mono ?_; rintro e w'' ⟨r_, rfl, hr_, hd_⟩; exact ⟨_, rfl, ⟨r_, rfl, hr_⟩, (Drew.mk _ _).trans hd_⟩); obtain ⟨r21, rfl, h21⟩ := hv; (refine hK _ ?_; clear hK K n')) | (refine wpRel_plain rfl (fun K hK => ?_); intro w' hw'; obtain ⟨n', rfl⟩ := hw'; go_simp; refine ⟨Drew.mk _ _, hK _ ?_⟩; clear hK K n'))
  (refine wpRel_nil ?_; intro w' hw'; obtain ⟨nq, rfl⟩ := hw')
  have H21 := Lib.hid (show FV r21 (bTo l t 0).2.2 by rw [← HO.out, ← HQ.out]; exact h21)
  have k1 := bdrewN (Below.refl w.heap.size w) nq
  obtain ⟨w1, hw1⟩ : ∃ w1 : World, w.drewN nq = w1 := ⟨_, rfl⟩
  rw [hw1] at k1 ⊢
  clear hw1 h19 h21 c0 c1 HQ HO hl1 hl0 hl0n hne
  go_wp2
  go_loopw [7, 8, 9, 10, 11, 12] (fun x y v i _ _ wr => ∃ (a r : Nat), a ≤ l.length ∧ i = .int .i64 a ∧ x = .int .i64 (bTo l t a).1 ∧ y = .int .i64 (bTo l t a).2.1 ∧ v = .float .f32 r ∧ Hid (FV r (bTo l t a).2.2) ∧ Below w.heap.size w wr) (fun _ _ _ i _ _ _ => l.length - (intOf i).toNat)
  case atStart => exact ⟨0, r21, Nat.zero_le _, rfl, rfl, rfl, rfl, H21, k1⟩
  case round =>
    clear H21 k1
    obtain ⟨a, r, ha, rfl, rfl, rfl, rfl, HV, hb⟩ := hrel
    by_cases hlt : a < l.length
    · obtain ⟨s0, hs0⟩ : ∃ s0, bTo l t a = s0 := ⟨_, rfl⟩
      have HN := Lib.hid (show bTo l t (a + 1) = bRow l t a s0 l.length by rw [bTo, hs0])
      rw [hs0] at HV ⊢
      have hltI : (a : Int) < (l.length : Int) := by omega
      clear hs0
      obtain ⟨wo, hwo⟩ : ∃ wo : World, wo = wr := ⟨_, rfl⟩
      subst hwo
      go_wp2
      go_loopw [7, 8, 9, 11, 12] (fun x y v k _ wr => ∃ (b r : Nat), b ≤ l.length ∧ k = .int .i64 b ∧ x = .int .i64 (bRow l t a s0 b).1 ∧ y = .int .i64 (bRow l t a s0 b).2.1 ∧ v = .float .f32 r ∧ Hid (FV r (bRow l t a s0 b).2.2) ∧ Below w.heap.size w wr) (fun _ _ _ k _ _ => l.length - (intOf k).toNat)
      case atStart => exact ⟨0, r, Nat.zero_le _, rfl, rfl, rfl, rfl, HV, hb⟩
      case round =>
        clear HV hb
        obtain ⟨b, r, hbl, rfl, rfl, rfl, rfl, HV, hb⟩ := hrel
        by_cases hlb : b < l.length
        · obtain ⟨s1, hs1⟩ : ∃ s1, bRow l t a s0 b = s1 := ⟨_, rfl⟩
          by_cases hab : a = b
          · subst hab
            have HE := Lib.hid (show bRow l t a s0 (a + 1) = s1 by rw [bRow, if_pos rfl, hs1])
            rw [hs1] at HV ⊢
            clear hs1
            go_wp2
            go_roundw
            case rel => exact ⟨a + 1, r, hlb, by go_num, by rw [HE.out], by rw [HE.out], rfl, Lib.hid (by rw [HE.out]; exact HV.out), hb⟩
            case measure => simp [intOf]; omega
          · have hab' : ¬ ((a : Int) = (b : Int)) := by omega
            have HE := Lib.hid (show bRow l t a s0 (b + 1) = if flt (oq l t a b) s1.2.2 = true then (a, b, oq l t a b) else s1 by rw [bRow, if_neg hab, hs1])
            rw [hs1] at HV ⊢
            clear hs1
            obtain ⟨bk', off', e1, _, c0, _, _⟩ := at_ki HA.out a hlt
            injection e1 with e1
            injection e1 with e1 e2
            subst e1 e2
            have c1 := at_ki1 HA.out b hlb bk off rfl
            have d0 := (bc hb bk (off + a) hbk).trans c0
            have d1 := (bc hb bk (off + b) hbk).trans c1
            have hl0 : bk < wr.heap.size := Nat.lt_of_lt_of_le hbk hb.size
            have HQ := Lib.hid (show offV (upV (l.getD a 0) (l.getD b 0)) t = oq l t a b from rfl)
            have hx2 : (b : Int) < (l.length : Int) := by omega
            have hx3 : (0 : Int) ≤ (a : Int) := by omega
            have hx4 : (0 : Int) ≤ (b : Int) := by omega
            obtain ⟨p, hp⟩ : ∃ p, l.getD a 0 = p := ⟨_, rfl⟩
            obtain ⟨q, hq⟩ : ∃ q, l.getD b 0 = q := ⟨_, rfl⟩
            obtain ⟨own, ho⟩ : ∃ x, oq l t a b = x := ⟨_, rfl⟩
            rw [hp] at d0 HQ
            rw [hq] at d1 HQ
            rw [ho] at HQ HE
            clear c0 c1 hp hq ho
            obtain ⟨wi, hwi⟩ : ∃ wi : World, wi = wr := ⟨_, rfl⟩
            subst hwi
            go_wp2
            first | refine region_drewN (DBst (upV p q) (offV (upV p q) t)) (by kernel_rfl) (by kernel_rfl) ?_ | refine region_drew (DBst (upV p q) (offV (upV p q) t)) (by kernel_rfl) (by kernel_rfl) ?_
            repeat (first | (refine wpRel_plain rfl (fun K hK => ?_); intro w' hw'; obtain ⟨n', rfl⟩ := hw'; go_simp; refine ⟨?_, fun v hv => ?_⟩; (go_at_call 53; refine (quotient_any p q _).mono ?_; rintro e w'' ⟨r_, rfl, hr_, hd_⟩; exact ⟨_, rfl, ⟨r_, rfl, hr_⟩, (Drew.mk _ _).trans hd_⟩); obtain ⟨r45, rfl, h45⟩ := hv; (refine hK _ ?_; clear hK K n')) | (refine wpRel_plain rfl (fun K hK => ?_); intro w' hw'; obtain ⟨n', rfl⟩ := hw'; go_simp; refine ⟨?_, fun v hv => ?_⟩; (go_at_call 57; refine (off_spec _ _ s t h45 HS.out _).mono ?_; rintro e w'' ⟨r_, rfl, hr_, hd_⟩; exact ⟨_, rfl, ⟨r_, rfl, hr_⟩, (Drew.mk _ _).trans hd_⟩); obtain ⟨r47, rfl, h47⟩ := hv; (refine hK _ ?_; clear hK K n')) | (refine wpRel_plain rfl (fun K hK => ?_); intro w' hw'; obtain ⟨n', rfl⟩ := hw'; go_simp; refine ⟨Drew.mk _ _, hK _ ?_⟩; clear hK K n'))
            (refine wpRel_nil ?_; intro w' hw'; obtain ⟨nq, rfl⟩ := hw')
            have h47b : FV r47 own := by rw [← HQ.out]; exact h47
            have hff : flt r47 r = flt own s1.2.2 := by rw [← flt_cn r47 r, h47b.1, HV.out.1]
            have H47 := Lib.hid h47b
            have k2 := bdrewN hb nq
            obtain ⟨w2, hw2⟩ : ∃ w2 : World, wi.drewN nq = w2 := ⟨_, rfl⟩
            rw [hw2] at k2 ⊢
            clear hw2 h45 h47 h47b d0 d1 HQ hl0 hb
            cases hf : flt own s1.2.2
            · have HE2 := Lib.hid (show bRow l t a s0 (b + 1) = s1 by rw [HE.out, if_neg (by rw [hf]; decide)])
              rw [hf] at hff
              clear hf HE
              go_wp2
              go_roundw
              case rel => exact ⟨b + 1, r, hlb, by go_num, by rw [HE2.out], by rw [HE2.out], rfl, Lib.hid (by rw [HE2.out]; exact HV.out), k2⟩
              case measure => simp [intOf]; omega
            · have HE2 := Lib.hid (show bRow l t a s0 (b + 1) = (a, b, own) by rw [HE.out, if_pos hf])
              rw [hf] at hff
              clear hf HE
              go_wp2
              go_roundw
              case rel => exact ⟨b + 1, r47, hlb, by go_num, by rw [HE2.out], by rw [HE2.out], rfl, Lib.hid (by rw [HE2.out]; exact H47.out), k2⟩
              case measure => simp [intOf]; omega
        · obtain rfl : b = l.length := by omega
          go_wp2
          go_roundw
          case rel => exact ⟨a + 1, r, hlt, by go_num, by rw [HN.out], by rw [HN.out], rfl, Lib.hid (by rw [HN.out]; exact HV.out), hb⟩
          case measure => simp [intOf]; omega
    · obtain rfl : a = l.length := by omega
      have hO := HOUT.out
      unfold bst at hO
      rw [hO] at HV ⊢
      clear hO HOUT
      go_wp2
      go_ret3
      exact ⟨r, rfl, HV.out, hb⟩
end Go.Proofs.Ytggcajillncamaa
namespace Go.Proofs.Ytggcajillncamaa
open Go.RowKit Ieee
open Go.Proofs.YtggcajillncamaaW.PrintWords
set_option maxRecDepth 100000
attribute [local irreducible] wpRel
def sx : Option (Nat × Nat × Nat) → Int
  | none => 0
  | some s => s.1
def sy : Option (Nat × Nat × Nat) → Int
  | none => 0
  | some s => s.2.1
def sv : Option (Nat × Nat × Nat) → Nat
  | none => 0
  | some s => s.2.2
/-- The five variables of the best pair so far: the target's, the pair's, its distance and whether there is one. -/
def Bs (b rt : Nat) (s : Option (Nat × Nat × Nat)) (w : World) : Prop := ∃ r,
  w.heap[b]? = some (.cells #[.float .f32 rt] 26 (0, 0)) ∧ w.heap[b + 1]? = some (.cells #[.int .i64 (sx s)] 2 (0, 0)) ∧ w.heap[b + 2]? = some (.cells #[.int .i64 (sy s)] 2 (0, 0)) ∧
  w.heap[b + 3]? = some (.cells #[.float .f32 r] 26 (0, 0)) ∧ w.heap[b + 4]? = some (.cells #[.bool s.isSome] 4 (0, 0)) ∧ FV r (sv s)
theorem Bs.below {b rt : Nat} {s : Option (Nat × Nat × Nat)} {w w' : World} (h : Bs b rt s w) (hb : Below w.heap.size w w') : Bs b rt s w' := by
  obtain ⟨r, h1, h2, h3, h4, h5, h6⟩ := h
  exact ⟨r, blk_below h1 hb, blk_below h2 hb, blk_below h3 hb, blk_below h4 hb, blk_below h5 hb, h6⟩
/-- One pair more. -/
def bstep1 (s : Option (Nat × Nat × Nat)) (a k v : Nat) : Option (Nat × Nat × Nat) :=
  match s with
  | none => some (a, k, v)
  | some s => if flt v s.2.2 = true then some (a, k, v) else some s
theorem Bs.put {b rt : Nat} {s : Option (Nat × Nat × Nat)} {w : World} (h : Bs b rt s w) {a k v r : Nat} (hr : FV r v) :
    Bs b rt (some (a, k, v)) ((((w.setCell ⟨b + 1, 0, none⟩ (.int .i64 a)).setCell ⟨b + 2, 0, none⟩ (.int .i64 k)).setCell ⟨b + 3, 0, none⟩ (.float .f32 r)).setCell ⟨b + 4, 0, none⟩ (.bool true)) := by
  obtain ⟨r0, h1, h2, h3, h4, h5, h6⟩ := h
  refine ⟨r, ?_, ?_, ?_, ?_, ?_, hr⟩
  · exact blk_far (blk_far (blk_far (blk_far h1 (by show b ≠ b + 1; omega) _) (by show b ≠ b + 2; omega) _) (by show b ≠ b + 3; omega) _) (by show b ≠ b + 4; omega) _
  · exact blk_far (blk_far (blk_far (one_setCell h2) (by show b + 1 ≠ b + 2; omega) _) (by show b + 1 ≠ b + 3; omega) _) (by show b + 1 ≠ b + 4; omega) _
  · exact blk_far (blk_far (one_setCell (blk_far h3 (by show b + 2 ≠ b + 1; omega) _)) (by show b + 2 ≠ b + 3; omega) _) (by show b + 2 ≠ b + 4; omega) _
  · exact blk_far (one_setCell (blk_far (blk_far h4 (by show b + 3 ≠ b + 1; omega) _) (by show b + 3 ≠ b + 2; omega) _)) (by show b + 3 ≠ b + 4; omega) _
  · exact one_setCell (blk_far (blk_far (blk_far h5 (by show b + 4 ≠ b + 1; omega) _) (by show b + 4 ≠ b + 2; omega) _) (by show b + 4 ≠ b + 3; omega) _)
set_option maxHeartbeats 4000000 in
theorem bst1_any (base b rt t : Nat) (s : Option (Nat × Nat × Nat)) (a k r x : Nat) (w : World) (hB : Bs b rt s w) (hbb : base ≤ b) (hr : FV r x) (ht : FV rt t) :
    Calls Try.prog 60 #[.int .i64 a, .int .i64 k, .float .f32 r, .pointer (some ⟨b, 0, none⟩), .pointer (some ⟨b + 4, 0, none⟩), .pointer (some ⟨b + 3, 0, none⟩), .pointer (some ⟨b + 1, 0, none⟩), .pointer (some ⟨b + 2, 0, none⟩)] w fun e w' => e = .returned (.tuple #[]) ∧ Bs b rt (bstep1 s a k (offV x t)) w' ∧ Below base w w' := by
  have HO := Lib.hid (fun w => off_impl r x rt t hr ht w)
  have HB := Lib.hid hB
  have HBB := Lib.hid hbb
  have c0 := cell_of_one hB.choose_spec.1
  obtain ⟨v, hv⟩ : ∃ v, offV x t = v := ⟨_, rfl⟩
  rw [hv] at HO ⊢
  obtain ⟨out, hout⟩ : ∃ out, bstep1 s a k v = out := ⟨_, rfl⟩
  rw [hout]
  have HOUT := Lib.hid hout
  clear hv hr ht hB hbb hout
  go_enter Try.func60, Try.ntmps60
  go_wp2_with fail
  go_at_call 61
  refine (HO.out _).mono ?_
  rintro e w1 ⟨r1, rfl, h1, hd⟩
  have hb1 : Below base w w1 := hd.below _
  have HB1 := Lib.hid (HB.out.below (hd.below _))
  have H1 := Lib.hid h1
  clear h1 hd HB HO c0
  obtain ⟨r0, g0, g1, g2, g3, g4, g5⟩ := HB1.out
  have c1 := cell_of_one g1
  have c2 := cell_of_one g2
  have c3 := cell_of_one g3
  have c4 := cell_of_one g4
  have f1 := free_of_one g1
  have f2 := free_of_one g2
  have f3 := free_of_one g3
  have f4 := free_of_one g4
  have l1 := lt_of_block g1
  have l2 := lt_of_block g2
  have l3 := lt_of_block g3
  have l4 := lt_of_block g4
  have hb4 : base ≤ b := HBB.out
  cases s with
  | none =>
    have HE := Lib.hid (show some (a, k, v) = out from HOUT.out)
    clear g0 g1 g2 g3 g4 g5
    simp only [Option.isSome_none] at c4
    go_wp2
    refine Go.Great.bodyPost_end0 (by kernel_rfl) rfl ⟨rfl, ?_, ?_⟩
    · have := HB1.out.put (a := a) (k := k) H1.out
      rw [← HE.out]
      simpa using this
    · exact (((hb1.setCell (by show base ≤ b + 1; omega) _).setCell (by show base ≤ b + 2; omega) _).setCell (by show base ≤ b + 3; omega) _).setCell (by show base ≤ b + 4; omega) _
  | some s =>
    have hff : flt r1 r0 = flt v s.2.2 := by rw [← flt_cn r1 r0, H1.out.1, g5.1]; rfl
    clear g0 g1 g2 g3 g4 g5
    simp only [Option.isSome_some] at c4
    cases hf : flt v s.2.2
    · have HE := Lib.hid (show some s = out by rw [← HOUT.out]; show some s = (if flt v s.2.2 = true then some (a, k, v) else some s); rw [if_neg (by rw [hf]; decide)])
      rw [hf] at hff
      clear hf
      go_wp2
      exact Go.Great.bodyPost_end0 (by kernel_rfl) rfl ⟨rfl, by rw [← HE.out]; exact HB1.out, hb1⟩
    · have HE := Lib.hid (show some (a, k, v) = out by rw [← HOUT.out]; show some (a, k, v) = (if flt v s.2.2 = true then some (a, k, v) else some s); rw [if_pos hf])
      rw [hf] at hff
      clear hf
      go_wp2
      refine Go.Great.bodyPost_end0 (by kernel_rfl) rfl ⟨rfl, ?_, ?_⟩
      · have := HB1.out.put (a := a) (k := k) H1.out
        rw [← HE.out]
        simpa using this
      · exact (((hb1.setCell (by show base ≤ b + 1; omega) _).setCell (by show base ≤ b + 2; omega) _).setCell (by show base ≤ b + 3; omega) _).setCell (by show base ≤ b + 4; omega) _
end Go.Proofs.Ytggcajillncamaa
namespace Go.Proofs.Ytggcajillncamaa
open Go.RowKit Ieee
open Go.Proofs.YtggcajillncamaaW.PrintWords
set_option maxRecDepth 100000
attribute [local irreducible] wpRel
/-- What is known behind the first k pairs of row a. -/
def iSt (l : List Int) (t a k : Nat) : Option (Nat × Nat × Nat) := if a = 0 ∧ k ≤ 1 then none else some (bRow l t a (bTo l t a) k)
theorem iSt_skip (l : List Int) (t a : Nat) : iSt l t a (a + 1) = iSt l t a a := by
  unfold iSt
  by_cases h : a = 0
  · subst h; rfl
  · rw [if_neg (by omega), if_neg (by omega), bRow, if_pos rfl]
theorem iSt_step {l : List Int} {t a k : Nat} (h : a ≠ k) : iSt l t a (k + 1) = bstep1 (iSt l t a k) a k (oq l t a k) := by
  unfold iSt
  by_cases h0 : a = 0 ∧ k ≤ 1
  · obtain ⟨rfl, hk⟩ := h0
    obtain rfl : k = 1 := by omega
    rw [if_neg (by omega), if_pos ⟨rfl, Nat.le_refl _⟩]
    have e : bRow l t 0 (bTo l t 0) 1 = (0, 1, oq l t 0 1) := by rw [bRow, if_pos rfl]; rfl
    rw [bRow, if_neg (by omega), e]
    show some (if flt (oq l t 0 1) (oq l t 0 1) = true then _ else _) = some (0, 1, oq l t 0 1)
    split <;> rfl
  · rw [if_neg (by omega), if_neg h0, bRow, if_neg h]
    show _ = if flt (oq l t a k) (bRow l t a (bTo l t a) k).2.2 = true then some (a, k, oq l t a k) else some (bRow l t a (bTo l t a) k)
    split <;> rfl
theorem iSt_row {l : List Int} {t a : Nat} (h : 2 ≤ l.length) : iSt l t (a + 1) 0 = iSt l t a l.length := by
  unfold iSt
  rw [if_neg (by omega), if_neg (by omega)]
  rfl
theorem iSt_end {l : List Int} {t : Nat} (h : 2 ≤ l.length) : iSt l t l.length 0 = some (bst l t) := by
  unfold iSt
  rw [if_neg (by omega)]
  rfl
set_option maxHeartbeats 4000000 in
theorem pairsB_any (A : Option Addr) (c : Nat) (l : List Int) (w0 : World) (hA : Kd.C ki16 w0 A l.length l) (h2 : 2 ≤ l.length) (hm : l.length ≤ 24) (b0 rt t : Nat) (hpb : w0.heap.size ≤ b0) (w : World) (hb0 : Below w0.heap.size w0 w) (hC : Bs b0 rt none w) (ht : FV rt t) :
    Calls Try.prog 47 #[.slice A l.length c, .func (.func 60) #[] #[.pointer (some ⟨b0, 0, none⟩), .pointer (some ⟨b0 + 4, 0, none⟩), .pointer (some ⟨b0 + 3, 0, none⟩), .pointer (some ⟨b0 + 1, 0, none⟩), .pointer (some ⟨b0 + 2, 0, none⟩)]] w fun e w' => e = .returned (.tuple #[]) ∧ Bs b0 rt (some (bst l t)) w' ∧ Below w0.heap.size w0 w' := by
  have HA := Lib.hid hA
  have HPB := Lib.hid hpb
  have HC := Lib.hid (show Bs b0 rt (iSt l t 0 0) w from hC)
  have HT := Lib.hid ht
  clear hA hpb hC ht
  go_enter Try.func47, Try.ntmps47
  go_wp2
  go_loopw [4, 5, 8] (fun _ _ i wr => ∃ a : Nat, a ≤ l.length ∧ i = .int .i64 a ∧ Hid (Bs b0 rt (iSt l t a 0) wr) ∧ Below w0.heap.size w0 wr) (fun _ _ i _ => l.length - (intOf i).toNat)
  case atStart => exact ⟨0, Nat.zero_le _, rfl, HC, hb0⟩
  case round =>
    clear HC hb0
    obtain ⟨a, ha, rfl, HC, hb⟩ := hrel
    by_cases hlt : a < l.length
    · go_wp2
      obtain ⟨wo, hwo⟩ : ∃ wo : World, wo = wr := ⟨_, rfl⟩
      subst hwo
      go_loopw [5, 13] (fun _ k wr => ∃ b : Nat, b ≤ l.length ∧ k = .int .i64 b ∧ Hid (Bs b0 rt (iSt l t a b) wr) ∧ Below w0.heap.size w0 wr) (fun _ k _ => l.length - (intOf k).toNat)
      case atStart => exact ⟨0, Nat.zero_le _, rfl, HC, hb⟩
      case round =>
        clear HC hb
        obtain ⟨b, hbl, rfl, HC, hb⟩ := hrel
        by_cases hlb : b < l.length
        · by_cases hab : a = b
          · subst hab
            have HC2 : Hid (Bs b0 rt (iSt l t a (a + 1)) wr) := Lib.hid (by rw [iSt_skip]; exact HC.out)
            go_wp2
            go_roundw
            case rel => exact ⟨a + 1, hlb, by go_num, HC2, hb⟩
            case measure => simp [intOf]; omega
          · have hab' : ¬ ((a : Int) = (b : Int)) := by omega
            have hx1 : (a : Int) < (l.length : Int) := by omega
            have hx2 : (b : Int) < (l.length : Int) := by omega
            have hx3 : (0 : Int) ≤ (a : Int) := by omega
            have hx4 : (0 : Int) ≤ (b : Int) := by omega
            obtain ⟨bk, off, rfl, hbk, c0, _, _⟩ := at_ki HA.out a hlt
            have c1 := at_ki1 HA.out b hlb bk off rfl
            have d0 := (bc hb bk (off + a) hbk).trans c0
            have d1 := (bc hb bk (off + b) hbk).trans c1
            have hl0 : bk < wr.heap.size := Nat.lt_of_lt_of_le hbk hb.size
            have HX := Lib.hid (iSt_step (l := l) (t := t) hab)
            have HQ := Lib.hid (show offV (upV (l.getD a 0) (l.getD b 0)) t = oq l t a b from rfl)
            clear c0 c1
            obtain ⟨p, hp⟩ : ∃ p, l.getD a 0 = p := ⟨_, rfl⟩
            obtain ⟨q, hq⟩ : ∃ q, l.getD b 0 = q := ⟨_, rfl⟩
            obtain ⟨own, ho⟩ : ∃ x, oq l t a b = x := ⟨_, rfl⟩
            obtain ⟨s, hs⟩ : ∃ x, iSt l t a b = x := ⟨_, rfl⟩
            rw [hp] at d0 HQ
            rw [hq] at d1 HQ
            rw [ho] at HQ HX
            rw [hs] at HC HX
            clear hp hq ho hs
            obtain ⟨wi, hwi⟩ : ∃ wi : World, wi = wr := ⟨_, rfl⟩
            subst hwi
            go_wp2
            first | refine region_tailN (DFv (upV p q)) 12 (by kernel_rfl) (by kernel_rfl) ?_ | refine region_tail (DFv (upV p q)) 12 (by kernel_rfl) (by kernel_rfl) ?_
            repeat (first | (refine wpRel_plain rfl (fun K hK => ?_); intro w' hw'; obtain ⟨n', rfl⟩ := hw'; go_simp; refine ⟨?_, fun v hv => ?_⟩; (go_at_call 68; refine (quotientI_any p q _).mono ?_; rintro e w'' ⟨r_, rfl, hr_, hd_⟩; exact ⟨_, rfl, ⟨r_, rfl, hr_⟩, (Drew.mk _ _).trans hd_⟩); obtain ⟨r30, rfl, h30⟩ := hv; (refine hK _ ?_; clear hK K n')) | (refine wpRel_plain rfl (fun K hK => ?_); intro w' hw'; obtain ⟨n', rfl⟩ := hw'; go_simp; refine ⟨Drew.mk _ _, hK _ ?_⟩; clear hK K n'))
            (refine wpRel_nil ?_; intro w' hw'; obtain ⟨nq, rfl⟩ := hw')
            simp only [List.drop]
            have HF := Lib.hid h30
            clear h30 d0 d1
            have hb1 := bdrewN hb nq
            have HC1 := Lib.hid (HC.out.below (bdrewN (Below.refl _ _) nq))
            go_wp2_with fail
            go_at_call 60
            refine (bst1_any w0.heap.size b0 rt t s a b r30 (upV p q) (wi.drewN nq) HC1.out HPB.out HF.out HT.out).mono ?_
            rintro e w2 ⟨rfl, hC2, hb2⟩
            have HC2 := Lib.hid (show Bs b0 rt (iSt l t a (b + 1)) w2 by rw [HX.out, ← HQ.out]; exact hC2)
            clear hC2
            have hbb := hb1.trans hb2
            go_wp2
            go_roundw
            case rel => exact ⟨b + 1, hlb, by go_num, HC2, hbb⟩
            case measure => simp [intOf]; omega
        · obtain rfl : b = l.length := by omega
          go_wp2
          go_roundw
          case rel => exact ⟨a + 1, hlt, by go_num, Lib.hid (by rw [iSt_row h2]; exact HC.out), hb⟩
          case measure => simp [intOf]; omega
    · obtain rfl : a = l.length := by omega
      go_wp2
      exact Go.Great.bodyPost_end0 (by kernel_rfl) rfl ⟨rfl, by rw [← iSt_end h2]; exact HC.out, hb⟩
theorem bs_new (w : World) (rt : Nat) : Bs w.heap.size rt none (((((w.alloc (.cells #[.float .f32 rt] 26)).alloc (.cells #[.int .i64 0] 2)).alloc (.cells #[.int .i64 0] 2)).alloc (.cells #[.float .f32 0] 26)).alloc (.cells #[.bool false] 4)) := by
  have n1 := heap_alloc_new w (.cells #[.float .f32 rt] 26)
  have n2 := heap_alloc_new (w.alloc (.cells #[.float .f32 rt] 26)) (.cells #[.int .i64 0] 2)
  have n3 := heap_alloc_new ((w.alloc (.cells #[.float .f32 rt] 26)).alloc (.cells #[.int .i64 0] 2)) (.cells #[.int .i64 0] 2)
  have n4 := heap_alloc_new (((w.alloc (.cells #[.float .f32 rt] 26)).alloc (.cells #[.int .i64 0] 2)).alloc (.cells #[.int .i64 0] 2)) (.cells #[.float .f32 0] 26)
  have n5 := heap_alloc_new ((((w.alloc (.cells #[.float .f32 rt] 26)).alloc (.cells #[.int .i64 0] 2)).alloc (.cells #[.int .i64 0] 2)).alloc (.cells #[.float .f32 0] 26)) (.cells #[.bool false] 4)
  have e1 : ∀ (W : World) (o : Obj), (W.alloc o).heap.size = W.heap.size + 1 := fun W o => by simp
  simp only [e1] at n2 n3 n4 n5
  refine ⟨0, blk_alloc (blk_alloc (blk_alloc (blk_alloc n1 _) _) _) _, blk_alloc (blk_alloc (blk_alloc n2 _) _) _, blk_alloc (blk_alloc n3 _) _, blk_alloc n4 _, n5, FV_zero⟩
set_option maxHeartbeats 4000000 in
theorem best_impl (A : Option Addr) (c : Nat) (l : List Int) (s t : Nat) (w : World) (hA : Kd.C ki16 w A l.length l) (h2 : 2 ≤ l.length) (hm : l.length ≤ 24) (hs : FV s t) :
    Calls Try.prog 37 #[.slice A l.length c, .float .f32 s] w (BsQ (bst l t) w) := by
  have HP := Lib.hid (fun W h1 h3 => pairsB_any A c l w hA h2 hm w.heap.size s t (Nat.le_refl _) W h1 h3 hs)
  obtain ⟨out, hout⟩ : ∃ out, bst l t = out := ⟨_, rfl⟩
  rw [hout] at HP ⊢
  clear hA hs hout
  go_enter Try.func37, Try.ntmps37
  go_wp2_with fail
  go_at_call 47
  refine (HP.out _ (balloc (balloc (balloc (balloc (balloc (Below.refl _ _) _) _) _) _) _) (bs_new w s)).mono ?_
  rintro e w1 ⟨rfl, hB, hb1⟩
  obtain ⟨r0, g0, g1, g2, g3, g4, g5⟩ := hB
  have c1 := cell_of_one g1
  have c2 := cell_of_one g2
  have c3 := cell_of_one g3
  have hV := Lib.hid (show FV r0 out.2.2 from g5)
  have e1 : w.heap.size + 1 + 1 = w.heap.size + 2 := rfl
  have e2 : w.heap.size + 1 + 1 + 1 = w.heap.size + 3 := rfl
  have hsx : sx (some out) = out.1 := rfl
  have hsy : sy (some out) = out.2.1 := rfl
  rw [hsx] at c1
  rw [hsy] at c2
  clear g0 g1 g2 g3 g4 g5 hsx hsy HP
  go_wp2
  first | refine region_drewN (DIs (.bool true)) (by kernel_rfl) (by kernel_rfl) ?_ | refine region_drew (DIs (.bool true)) (by kernel_rfl) (by kernel_rfl) ?_
  repeat (first | (refine wpRel_plain rfl (fun K hK => ?_); intro w' hw'; obtain ⟨n', rfl⟩ := hw'; go_simp; refine ⟨Drew.mk _ _, hK _ ?_⟩; clear hK K n'))
  (refine wpRel_nil ?_; intro w' hw'; obtain ⟨nq, rfl⟩ := hw')
  go_wp2
  go_ret3
  exact ⟨r0, rfl, hV.out, bdrewN hb1 _⟩
end Go.Proofs.Ytggcajillncamaa
