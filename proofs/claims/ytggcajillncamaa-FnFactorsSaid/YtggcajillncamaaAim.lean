/- Any number, drawn; a target. A target and a box, drawn. -/
import Derived.Test.YtggcajillncamaaDrwA
import Derived.Test.YtggcajillncamaaA
import Derived.IntWalk
import Derived.Test.YtggcajillncamaaBx
namespace Go.Proofs.Ytggcajillncamaa
open Go.RowKit Ieee
open Go.Proofs.YtggcajillncamaaW.PrintWords
set_option maxRecDepth 100000
attribute [local irreducible] wpRel
theorem fbits_any (b : Nat) (w : World) : (callFunc 43 #[.int .u32 (b : Int)]).run Try.prog w = .ok (.value (.float .f32 b)) w := by kernel_rfl
theorem fbits6_any (b : Nat) (w : World) : (callFunc 75 #[.int .u64 (b : Int)]).run Try.prog w = .ok (.value (.float .f64 b)) w := by kernel_rfl
theorem cutc_eq (x t : Nat) : Question.cut (.nanConv .f32 x) t = (t % 2) * 2147483648 + 2139095041 + (t / 2) % 8388607 := by simp [Question.cut]
/-- An infinity or a NaN, made narrow. -/
theorem narrow_run {P : Program} (w : World) (b : Nat) (hb : (FloatKind.f64.decode b).isNaN = true ∨ ∃ s, FloatKind.f64.decode b = .infinity s) : ∃ r n, (Conv.floatToFloat .f64 b .f32).run P w = .ok (.float .f32 r) (w.drewN n) ∧ r < 4294967296 := by
  cases hd : FloatKind.f64.decode b with
  | number s m e => rw [hd] at hb; rcases hb with h | ⟨s, h⟩ <;> cases h
  | infinity s =>
    refine ⟨FloatKind.f32.encode (.infinity s), 0, by simp [Conv.floatToFloat, hd]; rfl, ?_⟩
    cases s <;> decide
  | nan s t =>
    refine ⟨Question.cut (.nanConv .f32 b) (w.tape w.drawn (.nanConv .f32 b)), 1, ?_, by rw [cutc_eq]; exact (cut_word _).2⟩
    simp [Conv.floatToFloat, hd, choose, Sem.run, Question.forced]
    rfl
theorem wpList_narrow {P : Program} {ops : Array Oper} {rest : List Oper} {a : Act} {w : World} {Q : Exit → Act → World → Prop} {o : Oper} (hg : o.guard = none)
    {src dst : TypeId} {x : Operand} (ho : o.op = .convert src dst x) (hs : (P.underlying src).isSome = true) (hd : P.underlying dst = some (.float .f32))
    {b : Nat} (hx : a.eval x = .float .f64 b) (hb : (FloatKind.f64.decode b).isNaN = true ∨ ∃ s, FloatKind.f64.decode b = .infinity s)
    (h : ∀ r n, r < 4294967296 → wpList P ops Q rest (a.put o.dst (.float .f32 r)) (w.drewN n)) : wpList P ops Q (o :: rest) a w := by
  refine wpList_plain hg fun K hK => ?_
  obtain ⟨r, n, hr, hv⟩ := narrow_run (P := P) w b hb
  obtain ⟨u, hs'⟩ := Option.isSome_iff_exists.1 hs
  have hrun : (convert src dst (.float .f64 b)).run P w = (Conv.floatToFloat .f64 b .f32).run P w := by
    cases u <;> simp [convert, run_underlying hs', run_underlying hd]
  rw [hr] at hrun
  have hh := hK _ _ (h r n hv)
  unfold Oper.wp execOp
  simp only [ho, hx, Sem.run_bind, hrun, Result.andThen_ok, Sem.run_pure, Oper.upon]
  exact hh
theorem nan_any (w : World) : Calls Try.prog 65 #[] w fun e w' => e = .returned (.float .f64 9221120237041090561) ∧ w = w' := by
  have hfb : ∀ w, (callFunc 75 #[.int .u64 (9221120237041090561 : Int)]).run Try.prog w = .ok (.value (.float .f64 9221120237041090561)) w := fun w => fbits6_any 9221120237041090561 w
  go_enter Try.func65, Try.ntmps65
  go_wp2
  go_ret
  exact ⟨rfl, rfl⟩
theorem inf_pos (w : World) : Calls Try.prog 66 #[.int .i64 1] w fun e w' => e = .returned (.float .f64 9218868437227405312) ∧ w = w' := by
  have hfb : ∀ w, (callFunc 75 #[.int .u64 (9218868437227405312 : Int)]).run Try.prog w = .ok (.value (.float .f64 9218868437227405312)) w := fun w => fbits6_any 9218868437227405312 w
  go_enter Try.func66, Try.ntmps66
  go_wp2
  go_ret
  exact ⟨rfl, rfl⟩
theorem inf_neg (w : World) : Calls Try.prog 66 #[.int .i64 (-1)] w fun e w' => e = .returned (.float .f64 18442240474082181120) ∧ w = w' := by
  have hfb : ∀ w, (callFunc 75 #[.int .u64 (18442240474082181120 : Int)]).run Try.prog w = .ok (.value (.float .f64 18442240474082181120)) w := fun w => fbits6_any 18442240474082181120 w
  go_enter Try.func66, Try.ntmps66
  go_wp2
  go_ret
  exact ⟨rfl, rfl⟩
/-- Some float. -/
def AnyQ (g : Nat) (w : World) (e : Ending) (w' : World) : Prop := ∃ r, e = .returned (.float .f32 r) ∧ r < 4294967296 ∧ Gr g w w'
theorem few_any (g m : Nat) (w : World) (h : Src w g m) (hm : m ≤ 1000000) : Calls Try.prog 67 #[.pointer (some ⟨g, 0, none⟩)] w (AnyQ g w) := by
  have HS := Lib.hid h
  clear h
  go_enter Try.func67, Try.ntmps67
  go_wp2_with fail
  go_at_call 40
  refine (pick_any g m 65 _ HS.out (by omega) (by omega) (by omega)).mono ?_
  rintro e w1 ⟨x, rfl, hx0, hx1, hG1, hS1⟩
  have HG := Lib.hid hG1
  clear hG1 hS1
  go_wp2_with (refine wpList_fop (o := ⟨some 7, _, _, _, _, _⟩) rfl rfl (by first | exact .inl rfl | exact .inr (.inl rfl) | exact .inr (.inr (.inl rfl)) | exact .inr (.inr (.inr rfl))) rfl rfl ?_; intro r7 n7 h7)
  go_ret
  exact ⟨r7, rfl, h7.2, HG.out.drewN _⟩
set_option maxHeartbeats 4000000 in
theorem anyF_any (g m : Nat) (w : World) (h : Src w g m) (hm : m ≤ 100000) : Calls Try.prog 42 #[.pointer (some ⟨g, 0, none⟩)] w (AnyQ g w) := by
  have HS := Lib.hid h
  clear h
  go_enter Try.func42, Try.ntmps42
  go_wp2_with fail
  go_at_call 40
  refine (pick_any g m 14 _ HS.out (by omega) (by omega) (by omega)).mono ?_
  rintro e w1 ⟨x, rfl, hx0, hx1, hG1, hS1⟩
  have HG := Lib.hid hG1
  replace hS1 := Lib.hid hS1
  clear hG1 HS
  by_cases h0 : x = 0
  · subst h0
    go_wp2_with (first | (go_at_call 65; refine (nan_any _).mono ?_; rintro e w' ⟨rfl, rfl⟩) | (refine wpList_narrow (o := ⟨some 9, _, _, _, _, _⟩) rfl rfl (by kernel_rfl) Try.underlying26 rfl (.inl (by decide)) ?_; intro r9 n9 h9))
    go_ret
    exact ⟨r9, rfl, h9, HG.out.drewN _⟩
  by_cases h1 : x = 1
  · subst h1
    go_wp2_with (first | (go_at_call 66; refine (inf_pos _).mono ?_; rintro e w' ⟨rfl, rfl⟩) | (refine wpList_narrow (o := ⟨some 13, _, _, _, _, _⟩) rfl rfl (by kernel_rfl) Try.underlying26 rfl (.inr ⟨false, by decide⟩) ?_; intro r9 n9 h9))
    go_ret
    exact ⟨r9, rfl, h9, HG.out.drewN _⟩
  by_cases h2 : x = 2
  · subst h2
    go_wp2_with (first | (go_at_call 66; refine (inf_neg _).mono ?_; rintro e w' ⟨rfl, rfl⟩) | (refine wpList_narrow (o := ⟨some 17, _, _, _, _, _⟩) rfl rfl (by kernel_rfl) Try.underlying26 rfl (.inr ⟨true, by decide⟩) ?_; intro r9 n9 h9))
    go_ret
    exact ⟨r9, rfl, h9, HG.out.drewN _⟩
  by_cases h3 : x = 3
  · subst h3
    have hfb : ∀ w, (callFunc 43 #[.int .u32 (2147483648 : Int)]).run Try.prog w = .ok (.value (.float .f32 2147483648)) w := fun w => fbits_any 2147483648 w
    go_wp2
    go_ret
    exact ⟨_, rfl, by decide, HG.out⟩
  by_cases h4 : x = 4
  · subst h4
    go_wp2_with fail
    go_at_call 40
    refine (pick_any g (m + 2) 16777220 _ hS1.out (by omega) (by omega) (by omega)).mono ?_
    rintro e w2 ⟨y, rfl, hy0, hy1, hG2, hS2⟩
    have HG2 := Lib.hid (HG.out.then hG2)
    obtain ⟨n, rfl⟩ : ∃ n : Nat, y = n := ⟨y.toNat, by omega⟩
    have hfb := fbits_any n
    clear hG2 hS2
    go_wp2
    go_ret
    exact ⟨_, rfl, by omega, HG2.out⟩
  by_cases h5 : x = 5
  · subst h5
    go_wp2_with fail
    go_at_call 40
    refine (pick_any g (m + 2) 1073741824 _ hS1.out (by omega) (by omega) (by omega)).mono ?_
    rintro e w2 ⟨y, rfl, hy0, hy1, hG2, hS2⟩
    have HG2 := Lib.hid (HG.out.then hG2)
    replace hS2 := Lib.hid hS2
    obtain ⟨n, rfl⟩ : ∃ n : Nat, y = n := ⟨y.toNat, by omega⟩
    clear hG2
    go_wp2_with fail
    go_at_call 40
    refine (pick_any g (m + 4) 4 _ hS2.out (by omega) (by omega) (by omega)).mono ?_
    rintro e w3 ⟨z, rfl, hz0, hz1, hG3, hS3⟩
    have HG3 := Lib.hid (HG2.out.then hG3)
    obtain ⟨k, rfl⟩ : ∃ k : Nat, z = k := ⟨z.toNat, by omega⟩
    have hfb := fbits_any (n * 4 + k)
    have hcast : ((n * 4 + k : Nat) : Int) = (n : Int) * 4 + (k : Int) := by omega
    rw [hcast] at hfb
    clear hG3 hS3
    go_wp2
    go_ret
    exact ⟨_, rfl, by omega, HG3.out⟩
  by_cases h6 : x = 6
  · subst h6
    go_wp2_with fail
    go_at_call 40
    refine (pick_any g (m + 2) 2000000 _ hS1.out (by omega) (by omega) (by omega)).mono ?_
    rintro e w2 ⟨y, rfl, hy0, hy1, hG2, hS2⟩
    have HG2 := Lib.hid (HG.out.then hG2)
    clear hG2 hS2
    go_wp2_with (refine wpList_fop (o := ⟨some 45, _, _, _, _, _⟩) rfl rfl (by first | exact .inl rfl | exact .inr (.inl rfl) | exact .inr (.inr (.inl rfl)) | exact .inr (.inr (.inr rfl))) rfl rfl ?_; intro r45 n45 h45)
    go_ret
    exact ⟨r45, rfl, h45.2, HG2.out.drewN _⟩
  by_cases h7 : x = 7
  · subst h7
    go_wp2_with fail
    go_at_call 44
    refine (among_any g _ _ 3 [1048576, 1048577, -1048576] _ (hS1.out.below (balloc (Below.refl _ _) _)) (by omega) (C_lit w1 [1048576, 1048577, -1048576] 2 (by decide)) (by intro ad he _; injection he with he; subst he; have := hS1.out.lt; show w1.heap.size ≠ g; omega) (by decide) (by decide)).mono ?_
    rintro e w2 ⟨i, hi, rfl, hG2, hS2⟩
    have HG2 := Lib.hid ((HG.out.alloc _).then hG2)
    clear hG2 hS2
    obtain ⟨z, hz⟩ : ∃ z : Int, List.getD [1048576, 1048577, -1048576] i 0 = z := ⟨_, rfl⟩
    rw [hz]
    clear hz hi
    go_wp2
    go_ret
    exact ⟨_, rfl, fi_lt _, HG2.out⟩
  · go_wp2_with fail
    go_at_call 67
    refine (few_any g (m + 2) _ hS1.out (by omega)).mono ?_
    rintro e w2 ⟨r, rfl, hr, hG2⟩
    have HG2 := Lib.hid (HG.out.then hG2)
    clear hG2
    go_wp2
    go_ret
    exact ⟨r, rfl, hr, HG2.out⟩
end Go.Proofs.Ytggcajillncamaa
namespace Go.Proofs.Ytggcajillncamaa
open Go.RowKit Ieee
open Go.Proofs.YtggcajillncamaaW.PrintWords
set_option maxRecDepth 100000
attribute [local irreducible] wpRel
set_option maxHeartbeats 4000000 in
theorem aim_any (g m : Nat) (w : World) (h : Src w g m) (hm : m ≤ 1000) : Calls Try.prog 20 #[.pointer (some ⟨g, 0, none⟩)] w (AnyQ g w) := by
  have HS := Lib.hid h
  clear h
  go_enter Try.func20, Try.ntmps20
  go_wp2_with fail
  go_at_call 41
  refine (one_any g m 12 _ HS.out (by omega) (by omega) (by omega)).mono ?_
  rintro e w1 ⟨b, rfl, hG1, hS1⟩
  have HG := Lib.hid hG1
  replace hS1 := Lib.hid hS1
  clear hG1 HS
  cases b
  · go_wp2_with fail
    go_at_call 40
    refine (pick_any g (m + 2) 4 _ hS1.out (by omega) (by omega) (by omega)).mono ?_
    rintro e w2 ⟨x, rfl, hx0, hx1, hG2, hS2⟩
    have HG2 := Lib.hid (HG.out.then hG2)
    replace hS2 := Lib.hid hS2
    clear hG2 HG hS1
    by_cases h0 : x = 0
    · subst h0
      go_wp2_with fail
      go_at_call 40
      refine (pick_any g (m + 4) 40 _ hS2.out (by omega) (by omega) (by omega)).mono ?_
      rintro e w3 ⟨y, rfl, hy0, hy1, hG3, hS3⟩
      have HG3 := Lib.hid (HG2.out.then hG3)
      replace hS3 := Lib.hid hS3
      clear hG3
      go_wp2_with fail
      go_at_call 40
      refine (pick_any g (m + 6) 40 _ hS3.out (by omega) (by omega) (by omega)).mono ?_
      rintro e w4 ⟨z, rfl, hz0, hz1, hG4, hS4⟩
      have HG4 := Lib.hid (HG3.out.then hG4)
      clear hG4 hS4
      go_wp2_with (refine wpList_fop (o := ⟨some 19, _, _, _, _, _⟩) rfl rfl (by first | exact .inl rfl | exact .inr (.inl rfl) | exact .inr (.inr (.inl rfl)) | exact .inr (.inr (.inr rfl))) rfl rfl ?_; intro r19 n19 h19)
      go_ret
      exact ⟨r19, rfl, h19.2, HG4.out.drewN _⟩
    by_cases h1 : x = 1
    · subst h1
      go_wp2_with fail
      go_at_call 40
      refine (pick_any g (m + 4) 167772161 _ hS2.out (by omega) (by omega) (by omega)).mono ?_
      rintro e w3 ⟨y, rfl, hy0, hy1, hG3, hS3⟩
      have HG3 := Lib.hid (HG2.out.then hG3)
      obtain ⟨n, rfl⟩ : ∃ n : Nat, y = n := ⟨y.toNat, by omega⟩
      have hfb := fbits_any (981467136 + n)
      have hcast : ((981467136 + n : Nat) : Int) = 981467136 + (n : Int) := by omega
      rw [hcast] at hfb
      clear hG3 hS3
      go_wp2
      go_ret
      exact ⟨_, rfl, by omega, HG3.out⟩
    by_cases h2 : x = 2
    · subst h2
      go_wp2_with fail
      go_at_call 44
      refine (among_any g _ _ 3 [1, 1024, 1025] _ (hS2.out.below (balloc (Below.refl _ _) _)) (by omega) (C_lit w2 [1, 1024, 1025] 2 (by decide)) (by intro ad he _; injection he with he; subst he; have := hS2.out.lt; show w2.heap.size ≠ g; omega) (by decide) (by decide)).mono ?_
      rintro e w3 ⟨i, hi, rfl, hG3, hS3⟩
      have HG3 := Lib.hid ((HG2.out.alloc _).then hG3)
      clear hG3 hS3
      obtain ⟨z, hz⟩ : ∃ z : Int, List.getD [1, 1024, 1025] i 0 = z := ⟨_, rfl⟩
      rw [hz]
      clear hz hi
      go_wp2
      go_ret
      exact ⟨_, rfl, fi_lt _, HG3.out⟩
    · go_wp2_with fail
      go_at_call 40
      refine (pick_any g (m + 4) 300 _ hS2.out (by omega) (by omega) (by omega)).mono ?_
      rintro e w3 ⟨y, rfl, hy0, hy1, hG3, hS3⟩
      have HG3 := Lib.hid (HG2.out.then hG3)
      clear hG3 hS3
      go_wp2_with (refine wpList_fop (o := ⟨some 37, _, _, _, _, _⟩) rfl rfl (by first | exact .inl rfl | exact .inr (.inl rfl) | exact .inr (.inr (.inl rfl)) | exact .inr (.inr (.inr rfl))) rfl rfl ?_; intro r37 n37 h37)
      go_ret
      exact ⟨r37, rfl, h37.2, HG3.out.drewN _⟩
  · go_wp2_with fail
    go_at_call 42
    refine (anyF_any g (m + 2) _ hS1.out (by omega)).mono ?_
    rintro e w2 ⟨r, rfl, hr, hG2⟩
    have HG2 := Lib.hid (HG.out.then hG2)
    clear hG2
    go_wp2
    go_ret
    exact ⟨r, rfl, hr, HG2.out⟩
/-- A target. -/
def tgt (t : Nat) : Bool := fin 981467136 1149239296 t
theorem tgt_spec (t : Nat) (w : World) : Calls Try.prog 21 #[.float .f32 t] w fun e w' => e = .returned (.bool (tgt t)) ∧ w = w' := by
  go_enter Try.func21, Try.ntmps21
  go_wp2
  all_goals (go_ret; refine ⟨?_, rfl⟩; simp [tgt, fin, *])
theorem tgt_impl (t : Nat) (w : World) : Calls Try.prog 35 #[.float .f32 t] w fun e w' => e = .returned (.bool (tgt t)) ∧ w = w' := by
  have HB := Lib.hid (fun w => between_any t 981467136 1149239296 w)
  go_enter Try.func35, Try.ntmps35
  go_wp2_with (go_at_call 31; refine (HB.out _).mono ?_; rintro e w' ⟨rfl, rfl⟩)
  go_ret
  exact ⟨rfl, rfl⟩
def TgQ (w : World) (e : Ending) (w' : World) : Prop := ∃ t, e = .returned (.float .f32 t) ∧ t < 4294967296 ∧ tgt t = true ∧ Below w.heap.size w w'
theorem a2Target_any (A : Option Addr) (c : Nat) (xs : List Int) (w : World) (hA : Bytes w A xs) : Calls Try.prog 6 #[.slice A xs.length c] w (TgQ w) := by
  have HA := Lib.hid hA
  clear hA
  go_enter Try.func6, Try.ntmps6
  go_wp2_with fail
  go_at_call 19
  refine (l00From_any A c xs w HA.out.row HA.out.bound HA.out.len).mono ?_
  rintro e w1 ⟨rfl, hb1, hS1⟩
  replace hS1 := Lib.hid hS1
  go_wp2_with fail
  go_at_call 20
  refine (aim_any _ 0 _ hS1.out (by decide)).mono ?_
  rintro e w2 ⟨r, rfl, hr, hG⟩
  have HG := Lib.hid (Gr.below hb1 hG (Nat.le_refl _))
  clear hG hb1 hS1
  cases ht : tgt r
  · have HT := Lib.hid (fun w => by have := tgt_spec r w; rw [ht] at this; exact this)
    clear ht
    go_wp2_with (go_at_call 21; refine (HT.out _).mono ?_; rintro e w' ⟨rfl, rfl⟩)
    go_ret
    exact ⟨_, rfl, by decide, by decide, HG.out⟩
  · have HT := Lib.hid (fun w => by have := tgt_spec r w; rw [ht] at this; exact this)
    have HT1 := Lib.hid ht
    clear ht
    go_wp2_with (go_at_call 21; refine (HT.out _).mono ?_; rintro e w' ⟨rfl, rfl⟩)
    go_ret
    exact ⟨_, rfl, hr, HT1.out, HG.out⟩
section
variable {ops : Array Oper} {rest : List Oper} {o : Oper} {a : Act} {Q : Exit → Act → World → Prop}
/-- append(v, x) of one whole number, whichever base. -/
theorem apWb (base : Nat) {W : World} {z : Int} (hgd : o.guard = none) (s x : Operand) (ho : o.op = .call { callee := .builtin .append, args := #[s, x], argTypes := #[24, 24] })
    (v : Value) (xs : List Int) (hs : a.eval s = v) (hx : a.eval x = .slice (some ⟨W.heap.size, 0, none⟩) 1 1)
    (HO : RW ki16 40 W base v xs) (hb : base ≤ W.heap.size) (hl : xs.length ≤ 1048576) (h1 : -32768 ≤ z) (h2 : z ≤ 32767)
    (h : ∀ v1 w1, RW ki16 40 w1 base v1 (xs ++ [z]) → W.grownBy w1 v.ownBlock → (v1.ownBlock = v.ownBlock ∨ ∃ b, v1.ownBlock = some b ∧ W.heap.size ≤ b) → wpList Try.prog ops Q rest (a.put o.dst v1) w1) :
    wpList Try.prog ops Q (o :: rest) a (W.alloc (.cells #[.int .i16 z] 40)) :=
  Kd.R_append ki16 (w0 := W) base hgd s x 24 40 (.int .i16 0) 2 ho Try.underlying24 info_i16 rfl (by decide) (by decide) v xs z [.int .i16 z] (fun _ => True) (fun _ => False) hs hx (ki_mkM _ _ _ h1 h2) (fun _ h => h.elim) (fun _ _ => trivial) HO (Below.refl _ _) hb (by omega) fun v1 w1 h1 _ h2 h3 => h v1 w1 h1 h2 h3
end
theorem getD_app (xs : List Int) (a : Int) {k : Nat} (h : k < xs.length) : (xs ++ [a]).getD k 0 = xs.getD k 0 := by
  rw [List.getD_eq_getElem?_getD, List.getD_eq_getElem?_getD, List.getElem?_append_left h]
theorem getD_last (xs : List Int) (a : Int) : (xs ++ [a]).getD xs.length 0 = a := by
  rw [List.getD_eq_getElem?_getD, List.getElem?_append_right (Nat.le_refl _), Nat.sub_self]; rfl
theorem bxTo_app (xs : List Int) (a : Int) : ∀ k, k ≤ xs.length → bxTo (xs ++ [a]) k = bxTo xs k
  | 0, _ => rfl
  | k + 1, h => by
    rw [bxTo, bxTo, bxTo_app xs a k (by omega), getD_app xs a (show k < xs.length by omega)]
    cases k with
    | zero => rfl
    | succ j => rw [show j + 1 - 1 = j from rfl, getD_app xs a (show j < xs.length by omega)]
theorem bx_snoc {xs : List Int} {a : Int} (h : bxTo xs xs.length = true) (h1 : 6 ≤ a) (h2 : a ≤ 200) (h3 : xs.length = 0 ∨ xs.getD (xs.length - 1) 0 < a) : bxTo (xs ++ [a]) (xs ++ [a]).length = true := by
  rw [List.length_append, List.length_singleton]
  refine bxTo_succ ((bxTo_app xs a _ (Nat.le_refl _)).trans h) ?_ ?_
  · rw [getD_last]; unfold iin; simp; omega
  · rcases h3 with h3 | h3
    · exact .inl h3
    · by_cases h4 : xs.length = 0
      · exact .inl h4
      · rw [getD_last, getD_app xs a (by omega)]; exact .inr h3
def DrawnQ (g : Nat) (w : World) (e : Ending) (w' : World) : Prop := ∃ v l, e = .returned v ∧ RW ki16 40 w' w.heap.size v l ∧ boxOk l = true ∧ l.length ≤ 6 ∧ Gr g w w'
set_option maxHeartbeats 4000000 in
theorem drawn_any (g m : Nat) (w : World) (h : Src w g m) (hm : m ≤ 1000) : Calls Try.prog 18 #[.pointer (some ⟨g, 0, none⟩)] w (DrawnQ g w) := by
  have HS := Lib.hid h
  have hgl := h.lt
  clear h
  go_enter Try.func18, Try.ntmps18
  go_wp2_with fail
  go_at_call 40
  refine (pick_any g m 20 _ (HS.out.below (balloc (Below.refl _ _) _)) (by omega) (by omega) (by omega)).mono ?_
  rintro e w1 ⟨x, rfl, hx0, hx1, hG1, hS1⟩
  have HR1 := Lib.hid ((RW.empty (w := w.alloc (.cells #[] 40)) ki16 40 w.heap.size w.heap.size (heap_alloc_new w _) (Nat.le_refl _)).gr rfl hG1 hgl)
  have HG1 := Lib.hid (((Gr.refl g w).alloc _).then hG1)
  replace hS1 := Lib.hid hS1
  clear hG1 HS
  go_wp2_with fail
  go_at_call 40
  refine (pick_any g (m + 2) 5 _ hS1.out (by omega) (by omega) (by omega)).mono ?_
  rintro e w2 ⟨y, rfl, hy0, hy1, hG2, hS2⟩
  have HR2 := Lib.hid (HR1.out.gr rfl hG2 hgl)
  have HG2 := Lib.hid (HG1.out.then hG2)
  replace hS2 := Lib.hid hS2
  clear hG2 HG1 HR1 hS1
  obtain ⟨n, rfl⟩ : ∃ n : Nat, y = n := ⟨y.toNat, by omega⟩
  go_wp2
  go_loopw [3, 4, 5] (fun v at_ k wr => ∃ (j : Nat) (a : Int) (xs : List Int), j ≤ n + 2 ∧ xs.length = j ∧ at_ = .int .i64 a ∧ k = .int .i64 (2 + n - j) ∧ 6 ≤ a ∧ a ≤ 25 + 25 * j ∧ Hid (RW ki16 40 wr w.heap.size v xs) ∧ Hid (Gr g w wr) ∧ Hid (Src wr g (m + 4 + 2 * j)) ∧ Hid (bxTo xs xs.length = true) ∧ Hid (xs.length = 0 ∨ xs.getD (xs.length - 1) 0 < a)) (fun _ _ k _ => (intOf k).toNat)
  case atStart => exact ⟨0, 6 + x, [], by omega, rfl, rfl, by go_num, by omega, by omega, HR2, HG2, hS2, Lib.hid rfl, Lib.hid (.inl rfl)⟩
  case round =>
    clear HR2 HG2 hS2
    obtain ⟨j, a, xs, hj, hxl, rfl, rfl, ha0, ha1, HR, HG, HS, HB, HL⟩ := hrel
    by_cases hlt : j < n + 2
    · have ha2 : a ≤ 200 := by omega
      have HXL := Lib.hid hxl
      clear hxl
      have hpos : (0 : Int) < 2 + (n : Int) - (j : Int) := by omega
      go_wp2_with (at_builtin; go_must (refine apWb w.heap.size (o := ⟨some 21, _, _, _, _, _⟩) rfl (.tmp 17) (.tmp 20) rfl u3 xs ?zy ?zx HR.out ?zb (by have := HXL.out; omega) (by omega) (by omega) ?_; (case zy => rfl); (case zx => go_simp); (case zb => exact HG.out.size); intro v21 w21 ho_ hg_ hat_; (have HO21 := Lib.hid ho_); (have HG21 := Lib.hid (Gr.grown HG.out hg_ (fun k hk => .inr (HR.out.base_le k hk)))); (have HS21 := Lib.hid (HS.out.grown hg_ (fun k hk => Nat.lt_of_lt_of_le hgl (HR.out.base_le k hk)))); clear ho_ hg_ hat_))
      go_at_call 40
      refine (pick_any g _ 25 _ HS21.out (by omega) (by omega) (by omega)).mono ?_
      rintro e w3 ⟨z, rfl, hz0, hz1, hG3, hS3⟩
      have HO3 := Lib.hid (HO21.out.gr rfl hG3 hgl)
      have HG3 := Lib.hid (HG21.out.then hG3)
      replace hS3 := Lib.hid hS3
      clear hG3 HG21 HS21 HO21 HR HG HS
      go_wp2
      go_roundw
      case rel => exact ⟨j + 1, a + (1 + z), xs ++ [a], by omega, by simp [HXL.out], by go_num, by go_num, by omega, by omega, HO3, HG3, Lib.hid (hS3.out.up (by omega)), Lib.hid (bx_snoc HB.out ha0 ha2 HL.out), Lib.hid (.inr (by rw [show (xs ++ [a]).length - 1 = xs.length from by simp, getD_last]; omega))⟩
      case measure => simp [intOf]; omega
    · have hj2 : j = n + 2 := by omega
      have HXL := Lib.hid hxl
      clear hxl
      have hpos : ¬ (0 : Int) < 2 + (n : Int) - (j : Int) := by omega
      go_wp2
      go_ret
      refine ⟨_, xs, rfl, HR.out, ?_, by have := HXL.out; omega, HG.out⟩
      rw [boxOk_end HB.out, HXL.out]
      unfold iin
      simp; omega
def BoxQ (w : World) (e : Ending) (w' : World) : Prop := ∃ v l, e = .returned v ∧ RW ki16 40 w' w.heap.size v l ∧ boxOk l = true ∧ l.length ≤ 6 ∧ Below w.heap.size w w'
theorem a2Box_any (A : Option Addr) (c : Nat) (xs : List Int) (w : World) (hA : Bytes w A xs) : Calls Try.prog 5 #[.slice A xs.length c] w (BoxQ w) := by
  have HA := Lib.hid hA
  clear hA
  go_enter Try.func5, Try.ntmps5
  go_wp2_with fail
  go_at_call 19
  refine (l00From_any A c xs w HA.out.row HA.out.bound HA.out.len).mono ?_
  rintro e w1 ⟨rfl, hb1, hS1⟩
  replace hS1 := Lib.hid hS1
  go_wp2_with fail
  go_at_call 18
  refine (drawn_any _ 0 _ hS1.out (by decide)).mono ?_
  rintro e w2 ⟨v, l, rfl, hR, hbo, hl6, hG⟩
  have HR := Lib.hid (hR.lower hb1.size)
  have HB := Lib.hid hbo
  have HG := Lib.hid (Gr.below hb1 hG (Nat.le_refl _))
  clear hR hG hbo
  go_wp2
  go_ret
  exact ⟨v, l, rfl, HR.out, HB.out, hl6, HG.out⟩
end Go.Proofs.Ytggcajillncamaa
