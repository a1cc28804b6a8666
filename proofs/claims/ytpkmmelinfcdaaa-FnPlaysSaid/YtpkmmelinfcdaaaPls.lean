/- FnPlays: the reference's comparison of rows; what is drawn is plain. FnPlays: the smaller and the greater one of two plays; a play set; bytes put together. FnPlays: the contracts at what is drawn. FnPlays: the smaller and the greater plays. -/
import Derived.Test.YtpkmmelinfcdaaaDrw5
import Derived.Test.YtpkmmelinfcdaaaPlLaw
import Derived.Test.YtpkmmelinfcdaaaPlay5
import Derived.Test.YtpkmmelinfcdaaaPlay7
import Derived.Test.YtpkmmelinfcdaaaPlay9
namespace Go.Proofs.Ytpkmmelinfcdaaa
open Go.RowKit Ieee
open Go.Proofs.YtpkmmelinfcdaaaW.PrintWords
set_option maxRecDepth 100000
attribute [local irreducible] wpRel

theorem FV_nn {r x : Nat} (h : FV r x) (hx : nn x) : r = x := by
  cases hr : isn r
  · rw [← h.1, cn_of_not hr]
  · have := h.1
    rw [cn_of_isn hr] at this
    subst this
    exact absurd hx (by unfold nn; decide)
theorem same_self (a : Nat) : same a a = true := by unfold same; simp
theorem sameNumber_self (a : Nat) (w : World) : Calls Try.prog 29 #[.float .f32 a, .float .f32 a] w fun e w' => e = .returned (.bool true) ∧ w = w' := by
  have HC := Lib.hid (l01Same_any a a)
  rw [same_self] at HC
  go_enter Try.func29, Try.ntmps29
  go_wp2_with (go_at_call 43; refine (HC.out _).mono ?_; rintro e w' ⟨rfl, rfl⟩)
  go_ret
  exact ⟨rfl, rfl⟩
theorem l01Same_self (a : Nat) (w : World) : Calls Try.prog 43 #[.float .f32 a, .float .f32 a] w fun e w' => e = .returned (.bool true) ∧ w = w' := by
  have := l01Same_any a a w
  rwa [same_self] at this
theorem sameNumbers_self (A B : Option Addr) (c c' : Nat) (xs : List Nat) (w : World) (hA : Kd.C kf w A xs.length xs) (hB : Kd.C kf w B xs.length xs) (hx : ∀ i, nn (xs.getD i 0)) (hm : xs.length ≤ 1000) :
    Calls Try.prog 28 #[.slice A xs.length c, .slice B xs.length c'] w fun e w' => e = .returned (.bool true) ∧ Below w.heap.size w w' := by
  have HA := Lib.hid hA
  have HB := Lib.hid hB
  have HX := Lib.hid hx
  clear hA hB hx
  go_enter Try.func28, Try.ntmps28
  go_wp2
  go_loopw [5] (fun i wr => ∃ k : Nat, k ≤ xs.length ∧ i = .int .i64 k ∧ Below w.heap.size w wr) (fun i _ => xs.length - (intOf i).toNat)
  case atStart => exact ⟨0, Nat.zero_le _, rfl, Below.refl _ _⟩
  case round =>
    obtain ⟨k, hk, rfl, hb⟩ := hrel
    by_cases hlt : k < xs.length
    · obtain ⟨b, off, r, rfl, hbl, c0, hr⟩ := at_kf HA.out k hlt
      obtain ⟨b', off', r', rfl, hbl', c1, hr'⟩ := at_kf HB.out k hlt
      have e2 : r' = r := (FV_nn hr' (HX.out k)).trans (FV_nn hr (HX.out k)).symm
      subst e2
      have d0 := (bc hb b (off + k) hbl).trans c0
      have d1 := (bc hb b' (off' + k) hbl').trans c1
      clear c0 c1 hr hr'
      have x1 : (k : Int) < (xs.length : Int) := by omega
      have x2 : (0 : Int) ≤ (k : Int) := by omega
      obtain ⟨wo, hwo⟩ : ∃ wo : World, wo = wr := ⟨_, rfl⟩
      subst hwo
      go_wp2
      first | refine region_drewN (DIs (.bool true)) (by kernel_rfl) (by kernel_rfl) ?_ | refine region_drew (DIs (.bool true)) (by kernel_rfl) (by kernel_rfl) ?_
      repeat (first | (refine wpRel_plain rfl (fun K hK => ?_); intro w' hw'; obtain ⟨n', rfl⟩ := hw'; go_simp; refine ⟨?_, fun v hv => ?_⟩; (go_at_call 43; refine (l01Same_self _ _).mono ?_; rintro e w' ⟨rfl, rfl⟩; exact ⟨_, rfl, rfl, Drew.mk _ _⟩); obtain rfl : v = _ := hv; (refine hK _ ?_; clear hK K n')) | (refine wpRel_plain rfl (fun K hK => ?_); intro w' hw'; obtain ⟨n', rfl⟩ := hw'; go_simp; refine ⟨Drew.mk _ _, hK _ ?_⟩; clear hK K n'))
      (refine wpRel_nil ?_; intro w' hw'; obtain ⟨nq, rfl⟩ := hw')
      go_wp2
      go_roundw
      case rel => exact ⟨k + 1, hlt, by go_num, bdrewN hb _⟩
      case measure => simp [intOf]; omega
    · go_wp2
      go_ret
      exact ⟨rfl, hb⟩
/-! ### what is drawn is plain -/
theorem isPts_nnL {ps : List Nat} (h : isPts ps) : nnL ps := fun i => (h i).nn
theorem isPts_ok {ps : List Nat} {n : Nat} (h : isPts ps) (hn : ps.length = n) : playsOk n ps = true := by
  unfold playsOk
  rw [show decide (ps.length = n) = true from decide_eq_true hn, Bool.true_and, List.all_eq_true]
  intro p hp
  obtain ⟨i, hi, rfl⟩ := List.getElem_of_mem hp
  have := h i
  rw [List.getD_eq_getElem?_getD, List.getElem?_eq_getElem hi] at this
  exact isPt_part this
theorem drawn_ups {ts : List (Int × Int × Nat)} (h : drawn ts) : upsOk ts := by
  intro i hi
  obtain ⟨⟨a, ha, e1⟩, ⟨b, hb, e2⟩, _⟩ := h i hi
  unfold good upOf
  rw [e1, e2]
  exact wheels_good a ha b hb
theorem isPts_set {ps : List Nat} (h : isPts ps) (i : Nat) {x : Nat} (hx : isPt x) : isPts (ps.set i x) := by
  intro j
  rw [getD_set]
  split
  · exact hx
  · exact h j
end Go.Proofs.Ytpkmmelinfcdaaa
namespace Go.Proofs.Ytpkmmelinfcdaaa
open Go.RowKit Ieee
open Go.Proofs.YtpkmmelinfcdaaaW.PrintWords
set_option maxRecDepth 100000
attribute [local irreducible] wpRel

theorem nn_order {x y : Nat} (hx : nn x) (hy : nn y) : single.order x y = some (compare (x : Int) (y : Int)) := by
  have h1 : (single.read x).isNaN = false := nn_isn hx
  have h2 : (single.read y).isNaN = false := nn_isn hy
  rw [order_skey single single_bi h1 h2, nn_skey hx, nn_skey hy]
theorem run_minN {P : Program} {x y : Nat} (hx : nn x) (hy : nn y) (ts : Array TypeId) (t : TypeId) (w : World) :
    (Builtin.min_ ts t #[.float .f32 x, .float .f32 y]).run P w = .ok (.float .f32 (min x y)) w := by
  have hrun : ∀ o, single.order x y = some o → (Builtin.min_ ts t #[.float .f32 x, .float .f32 y]).run P w =
      (match o with
        | .lt => pure (.float .f32 x)
        | .gt => pure (.float .f32 y)
        | .eq => pure (.float .f32 (if (single.read x).neg then x else y)) : Sem Value).run P w := fun o ho => by
    have e : FloatKind.f32.format.order x y = some o := ho
    simp only [Builtin.min_, Builtin.min2, List.foldlM, e]
    cases o <;> rfl
  rw [hrun _ (nn_order hx hy)]
  rcases Int.lt_trichotomy (x : Int) (y : Int) with h | h | h
  · rw [Int.compare_eq_lt.2 h, Nat.min_eq_left (by omega)]; rfl
  · obtain rfl : x = y := by omega
    rw [Int.compare_eq_eq.2 rfl, Nat.min_self]
    show (pure (.float .f32 (if (single.read x).neg then x else x)) : Sem Value).run P w = _
    rw [ite_self]
    rfl
  · rw [Int.compare_eq_gt.2 h, Nat.min_eq_right (by omega)]; rfl
theorem run_maxN {P : Program} {x y : Nat} (hx : nn x) (hy : nn y) (ts : Array TypeId) (t : TypeId) (w : World) :
    (Builtin.max_ ts t #[.float .f32 x, .float .f32 y]).run P w = .ok (.float .f32 (max x y)) w := by
  have hrun : ∀ o, single.order x y = some o → (Builtin.max_ ts t #[.float .f32 x, .float .f32 y]).run P w =
      (match o with
        | .lt => pure (.float .f32 y)
        | .gt => pure (.float .f32 x)
        | .eq => pure (.float .f32 (if (single.read x).neg then y else x)) : Sem Value).run P w := fun o ho => by
    have e : FloatKind.f32.format.order x y = some o := ho
    simp only [Builtin.max_, Builtin.max2, List.foldlM, e]
    cases o <;> rfl
  rw [hrun _ (nn_order hx hy)]
  rcases Int.lt_trichotomy (x : Int) (y : Int) with h | h | h
  · rw [Int.compare_eq_lt.2 h, Nat.max_eq_right (by omega)]; rfl
  · obtain rfl : x = y := by omega
    rw [Int.compare_eq_eq.2 rfl, Nat.max_self]
    show (pure (.float .f32 (if (single.read x).neg then x else x)) : Sem Value).run P w = _
    rw [ite_self]
    rfl
  · rw [Int.compare_eq_gt.2 h, Nat.max_eq_left (by omega)]; rfl
/-- Element k of an own row set. -/
theorem setAt {W : World} {base : Nat} {v : Value} {ps : List Nat} (h : FR W base v ps) (k : Nat) (hk : k < ps.length) {x r : Nat} (hr : FV r x) :
    ∃ g cap r2, v = .slice (some ⟨g, 0, none⟩) ps.length cap ∧ base ≤ g ∧ g < W.heap.size ∧ W.cell? ⟨g, k, none⟩ = some (.float .f32 r2) ∧ W.frozen? ⟨g, k, none⟩ = false ∧ ps.length ≤ cap ∧ Kd.C kf (W.setCell ⟨g, k, none⟩ (.float .f32 r)) (some ⟨g, 0, none⟩) ps.length (ps.set k x) := by
  obtain ⟨g, cap, rfl, hge, hglt, _⟩ := Kd.R_form h.out (by omega)
  obtain ⟨ce, hcl, hM, hcc, hfr⟩ := Kd.R_elem h.out 0 (k : Int) (by omega) (by omega)
  obtain ⟨r2, rfl, _⟩ := kf_openM hM
  have x0 : W.cell? ⟨g, k, none⟩ = some (.float .f32 r2) := by have := hcc 0 _ rfl; rwa [show (k : Int).toNat * kf.sz + 0 = k from by show k * 1 + 0 = k; omega] at this
  have f0 : W.frozen? ⟨g, k, none⟩ = false := by have := hfr 0; rwa [show (k : Int).toNat * kf.sz + 0 = k from by show k * 1 + 0 = k; omega] at this
  have HS0 := (Kd.R_seg h.out (k : Int) (by omega) (by omega) (seg := [.float .f32 r]) (j := 0) hcl hcc (show 1 ≤ 1 from Nat.le_refl 1) (x' := x) (kf_mkM W _ (fun q => True ∧ q ≠ g) hr) (fun _ h => h)).1
  have e1 : W.setCells g ((k : Int).toNat * kf.sz + 0) [.float .f32 r] = W.setCell ⟨g, k, none⟩ (.float .f32 r) := by show W.setCell ⟨g, k * 1 + 0, none⟩ _ = _; rw [show k * 1 + 0 = k from by omega]
  rw [e1] at HS0
  obtain ⟨_, _, hv2, hcap, _⟩ := h.reads
  refine ⟨g, cap, r2, rfl, hge, hglt, x0, f0, by injection hv2 with _ _ hc; rw [hc]; exact hcap, ?_⟩
  obtain ⟨A, c, hv, _, hC⟩ := Kd.R_reads HS0
  injection hv with hA hn _
  subst hA
  have := hC
  rw [← hn] at this
  exact this
section
variable {ops : Array Oper} {rest : List Oper} {o : Oper} {a : Act} {Q : Exit → Act → World → Prop}
theorem info_u8 : (Try.prog.info? 5).map (fun i => (i.zero, i.size, i.bytes)) = some (some (.int .u8 0), 1, 1) := by kernel_rfl
/-- append([]byte{9}, ys...) of bytes. -/
theorem catB {w0 W : World} (hgd : o.guard = none) (s x : Operand) (ho : o.op = .call { callee := .builtin .append, args := #[s, x], argTypes := #[46, 46] })
    (v : Value) (xs ys : List Int) (A : Option Addr) (m c : Nat) (hs : a.eval s = v) (hx : a.eval x = .slice A m c)
    (HO : RW kB 5 W w0.heap.size v xs) (HR : Kd.C kB W A m ys) (HB : Below w0.heap.size w0 W) (hl : xs.length + m ≤ 2097152)
    (h : ∀ v1 w1, RW kB 5 w1 w0.heap.size v1 (xs ++ ys) → Below w0.heap.size w0 w1 → wpList Try.prog ops Q rest (a.put o.dst v1) w1) :
    wpList Try.prog ops Q (o :: rest) a W :=
  Kd.R_append_rows kB (Rr := kB.K W) (w0 := w0) w0.heap.size hgd s x 46 5 (.int .u8 0) 1 ho Try.underlying46 info_u8 rfl (by decide) (by decide) v xs ys A m c (fun _ => True) (fun _ => False) hs hx HO HR (fun _ _ h => h) (fun _ h => h.elim) (fun _ _ => trivial) HB HB.size (by omega) fun v1 w1 h1 hb _ _ => h v1 w1 h1 hb
end
/-- A row of one byte. -/
theorem R_byte (w : World) (n : Int) : RW kB 5 (w.alloc (.cells #[.int .u8 n] 5)) w.heap.size (.slice (some ⟨w.heap.size, 0, none⟩) 1 1) [n] :=
  Kd.R_of_own (enc := Value.int .u8) (h1 := fun _ => rfl) (xs := [n]) (World.ownsRow_lit w #[.int .u8 n] 1 (Nat.le_refl _) (by decide) rfl) (fun _ _ => trivial)
end Go.Proofs.Ytpkmmelinfcdaaa
namespace Go.Proofs.Ytpkmmelinfcdaaa
open Go.RowKit Ieee
open Go.Proofs.YtpkmmelinfcdaaaW.PrintWords
set_option maxRecDepth 100000
attribute [local irreducible] wpRel

section
variable {t : List (Int × Int × Nat)} {ps qs : List Nat}
theorem outPL_ok (ht : trainOk t = true) (hp : playsOk t.length ps = true) : outPL t ps = (aloL t ps t.length, 0) := by simp [outPL, ht, hp]
theorem outPA_ok (ht : trainOk t = true) (hp : playsOk t.length ps = true) : outPA t ps = (alo t ps (t.length - 1), 0) := by simp [outPA, ht, hp]
theorem outWP_ok (ht : trainOk t = true) (hp : playsOk t.length ps = true) : outWP t ps = ((wid (lessV t ps) ps.length 0 0 0).1, (wid (lessV t ps) ps.length 0 0 0).2, 0) := by simp [outWP, ht, hp]
theorem outPB_ok (ht : trainOk t = true) (hp : playsOk t.length ps = true) (hq : playsOk t.length qs = true) (hl : leL ps qs) (hnp : nnL ps) (hnq : nnL qs) : outPB t ps qs = (alo t ps (t.length - 1), alo t qs (t.length - 1), 0) := by
  have : lhK ps qs ps.length = true := by
    unfold lhK
    rw [List.all_eq_true]
    intro i _
    rw [nn_flt (hnq i) (hnp i)]
    have := hl i
    rw [decide_eq_false (by omega)]
    rfl
  simp [outPB, outLH, ht, hp, hq, this]
end
/-- A drawn train and plays for it. -/
structure OkP (t : List (Int × Int × Nat)) (ps : List Nat) : Prop where
  ht : trainOk t = true
  hp : playsOk t.length ps = true
  up : upsOk t
  nnl : nnL ps
  len : ps.length = t.length
  n1 : 1 ≤ t.length
  n8 : t.length ≤ 8
theorem OkP.mk' {t : List (Int × Int × Nat)} {ps : List Nat} (hd : drawn t) (h1 : 1 ≤ t.length) (h8 : t.length ≤ 8) (hp : isPts ps) (hl : ps.length = t.length) : OkP t ps :=
  ⟨drawn_ok hd h1 h8, isPts_ok hp hl, drawn_ups hd, isPts_nnL hp, hl, h1, h8⟩
/-- The play at the end. -/
def endV (t : List (Int × Int × Nat)) (ps : List Nat) : Nat := alo t ps (t.length - 1)
section
variable {t : List (Int × Int × Nat)} {ps qs : List Nat} (h : OkP t ps) {A B D : Option Addr} {c c' d : Nat} {w : World}
include h
theorem OkP.alo_nn : ∀ i, i < t.length → nn (alo t ps i) := fun i hi => Proofs.Ytpkmmelinfcdaaa.alo_nn h.up h.nnl i hi
theorem OkP.end_nn : nn (endV t ps) := h.alo_nn _ (by have := h.n1; omega)
theorem alongI_ok (hA : Kd.C kP w A t.length t) (hB : Kd.C kf w B ps.length ps) (hc : ps.length ≤ c') :
    Calls Try.prog 19 #[.slice A t.length c, .slice B ps.length c'] w fun e w' => ∃ A' c', e = .returned (.tuple #[.slice A' t.length c', .int .i64 0]) ∧ Kd.C kf w' A' t.length (aloL t ps t.length) ∧ Below w.heap.size w w' := by
  have := playsAlong_impl A B c c' t ps w hA (by have := h.n8; omega) hB hc (by have := h.n8; have := h.len; omega)
  rw [outPL_ok h.ht h.hp] at this
  refine this.mono ?_
  rintro e w' ⟨v, rfl, f, hb⟩
  obtain ⟨A', c', rfl, _, hC⟩ := f.reads
  have hl : (aloL t ps t.length).length = t.length := aloL_length _ _ _
  have hC' : Kd.C kf w' A' (aloL t ps t.length).length (aloL t ps t.length) := hC
  refine ⟨A', c', ?_, ?_, hb⟩
  · show Ending.returned (.tuple #[.slice A' (aloL t ps t.length).length c', .int .i64 0]) = _
    rw [hl]
  · rwa [hl] at hC'
theorem alongS_ok (hA : Kd.C kP w A t.length t) (hB : Kd.C kf w B ps.length ps) :
    Calls Try.prog 18 #[.slice A t.length c, .slice B ps.length c'] w fun e w' => ∃ A' c', e = .returned (.tuple #[.slice A' t.length c', .int .i64 0]) ∧ Kd.C kf w' A' t.length (aloL t ps t.length) ∧ Below w.heap.size w w' := by
  have := playsAlong_spec A B c c' t ps w hA (by have := h.n8; omega) hB (by have := h.n8; have := h.len; omega)
  rw [outPL_ok h.ht h.hp] at this
  refine this.mono ?_
  rintro e w' ⟨v, rfl, f, hb⟩
  obtain ⟨A', c', rfl, _, hC⟩ := f.reads
  have hl : (aloL t ps t.length).length = t.length := aloL_length _ _ _
  have hC' : Kd.C kf w' A' (aloL t ps t.length).length (aloL t ps t.length) := hC
  refine ⟨A', c', ?_, ?_, hb⟩
  · show Ending.returned (.tuple #[.slice A' (aloL t ps t.length).length c', .int .i64 0]) = _
    rw [hl]
  · rwa [hl] at hC'
theorem playAtI_ok (hA : Kd.C kP w A t.length t) (hB : Kd.C kf w B ps.length ps) (hc : ps.length ≤ c') :
    Calls Try.prog 12 #[.slice A t.length c, .slice B ps.length c'] w fun e w' => e = .returned (.tuple #[.float .f32 (endV t ps), .int .i64 0]) ∧ Below w.heap.size w w' := by
  have := playAt_impl A B c c' t ps w hA (by have := h.n8; omega) hB hc (by have := h.n8; have := h.len; omega)
  rw [outPA_ok h.ht h.hp] at this
  refine this.mono ?_
  rintro e w' ⟨r, rfl, hr, hb⟩
  obtain rfl := FV_nn hr h.end_nn
  exact ⟨rfl, hb⟩
theorem playAtS_ok (hA : Kd.C kP w A t.length t) (hB : Kd.C kf w B ps.length ps) :
    Calls Try.prog 9 #[.slice A t.length c, .slice B ps.length c'] w fun e w' => e = .returned (.tuple #[.float .f32 (endV t ps), .int .i64 0]) ∧ Below w.heap.size w w' := by
  have := playAt_spec A B c c' t ps w hA (by have := h.n8; omega) hB (by have := h.n8; have := h.len; omega)
  rw [outPA_ok h.ht h.hp] at this
  refine this.mono ?_
  rintro e w' ⟨r, rfl, hr, hb⟩
  obtain rfl := FV_nn hr h.end_nn
  exact ⟨rfl, hb⟩
theorem boundsI_ok (hq : OkP t qs) (hle : leL ps qs) (hA : Kd.C kP w A t.length t) (hB : Kd.C kf w B ps.length ps) (hc : ps.length ≤ c') (hD : Kd.C kf w D qs.length qs) (hd : qs.length ≤ d) :
    Calls Try.prog 17 #[.slice A t.length c, .slice B ps.length c', .slice D qs.length d] w fun e w' => e = .returned (.tuple #[.float .f32 (endV t ps), .float .f32 (endV t qs), .int .i64 0]) ∧ Below w.heap.size w w' := by
  have := playBounds_impl A B D c c' d t ps qs w hA (by have := h.n8; omega) hB hc (by have := h.n8; have := h.len; omega) hD hd (by have := h.n8; have := hq.len; omega)
  rw [outPB_ok h.ht h.hp hq.hp hle h.nnl hq.nnl] at this
  refine this.mono ?_
  rintro e w' ⟨r, s, rfl, hr, hs, hb⟩
  obtain rfl := FV_nn hr h.end_nn
  obtain rfl := FV_nn hs hq.end_nn
  exact ⟨rfl, hb⟩
theorem boundsS_ok (hq : OkP t qs) (hle : leL ps qs) (hA : Kd.C kP w A t.length t) (hB : Kd.C kf w B ps.length ps) (hD : Kd.C kf w D qs.length qs) :
    Calls Try.prog 16 #[.slice A t.length c, .slice B ps.length c', .slice D qs.length d] w fun e w' => e = .returned (.tuple #[.float .f32 (endV t ps), .float .f32 (endV t qs), .int .i64 0]) ∧ Below w.heap.size w w' := by
  have := playBounds_spec A B D c c' d t ps qs w hA (by have := h.n8; omega) hB (by have := h.n8; have := h.len; omega) hD (by have := h.n8; have := hq.len; omega)
  rw [outPB_ok h.ht h.hp hq.hp hle h.nnl hq.nnl] at this
  refine this.mono ?_
  rintro e w' ⟨r, s, rfl, hr, hs, hb⟩
  obtain rfl := FV_nn hr h.end_nn
  obtain rfl := FV_nn hs hq.end_nn
  exact ⟨rfl, hb⟩
theorem playAtI_n {m : Nat} (hm : ps.length = m) (hA : Kd.C kP w A t.length t) (hB : Kd.C kf w B m ps) (hc : m ≤ c') :
    Calls Try.prog 12 #[.slice A t.length c, .slice B m c'] w fun e w' => e = .returned (.tuple #[.float .f32 (endV t ps), .int .i64 0]) ∧ Below w.heap.size w w' := by
  subst hm
  exact playAtI_ok h hA hB hc
theorem widestI_ok {b : Nat} (hw : outWP t ps = ((b : Int), endV t (ps.set b 0), 0)) (hn : nn (endV t (ps.set b 0))) (hA : Kd.C kP w A t.length t) (hB : Kd.C kf w B ps.length ps) (hc : ps.length ≤ c') :
    Calls Try.prog 24 #[.slice A t.length c, .slice B ps.length c'] w fun e w' => e = .returned (.tuple #[.int .i64 (b : Int), .float .f32 (endV t (ps.set b 0)), .int .i64 0]) ∧ Below w.heap.size w w' := by
  have := widest_impl A B c c' t ps w hA (by have := h.n8; omega) hB hc (by have := h.n8; have := h.len; omega)
  rw [hw] at this
  refine this.mono ?_
  rintro e w' ⟨r, rfl, hr, hb⟩
  obtain rfl := FV_nn hr hn
  exact ⟨rfl, hb⟩
theorem widestS_ok {b : Nat} (hw : outWP t ps = ((b : Int), endV t (ps.set b 0), 0)) (hn : nn (endV t (ps.set b 0))) (hA : Kd.C kP w A t.length t) (hB : Kd.C kf w B ps.length ps) :
    Calls Try.prog 23 #[.slice A t.length c, .slice B ps.length c'] w fun e w' => e = .returned (.tuple #[.int .i64 (b : Int), .float .f32 (endV t (ps.set b 0)), .int .i64 0]) ∧ Below w.heap.size w w' := by
  have := widest_spec A B c c' t ps w hA (by have := h.n8; omega) hB (by have := h.n8; have := h.len; omega)
  rw [hw] at this
  refine this.mono ?_
  rintro e w' ⟨r, rfl, hr, hb⟩
  obtain rfl := FV_nn hr hn
  exact ⟨rfl, hb⟩
theorem sameAlong_ok {A' : Option Addr} {c2 c3 : Nat} (hA : Kd.C kf w A t.length (aloL t ps t.length)) (hB : Kd.C kf w A' t.length (aloL t ps t.length)) :
    Calls Try.prog 28 #[.slice A t.length c2, .slice A' t.length c3] w fun e w' => e = .returned (.bool true) ∧ Below w.heap.size w w' := by
  have hl : (aloL t ps t.length).length = t.length := aloL_length _ _ _
  have := sameNumbers_self A A' c2 c3 (aloL t ps t.length) w (by rw [hl]; exact hA) (by rw [hl]; exact hB) (fun i => by
    rcases Nat.lt_or_ge i t.length with hi | hi
    · rw [aloL_get _ _ hi]; exact h.alo_nn i hi
    · rw [List.getD_eq_getElem?_getD, List.getElem?_eq_none (by omega)]; show nn 0; unfold nn; omega) (by rw [hl]; have := h.n8; omega)
  rwa [hl] at this
theorem last_ok (hA : Kd.C kf w A t.length (aloL t ps t.length)) {m : Nat} (hm : t.length = m + 1) : ∃ b off, A = some ⟨b, off, none⟩ ∧ b < w.heap.size ∧ w.cell? ⟨b, off + m, none⟩ = some (.float .f32 (endV t ps)) := by
  obtain ⟨b, off, r, e, hb, hc, hr⟩ := at_kf hA m (by omega)
  rw [aloL_get _ _ (show m < t.length by omega)] at hr
  obtain rfl := FV_nn hr (h.alo_nn m (by omega))
  refine ⟨b, off, e, hb, ?_⟩
  rw [hc]
  unfold endV
  rw [hm]
  rfl
theorem OkP.set (i : Nat) {x : Nat} (hx : isPt x) (hps : isPts ps) : OkP t (ps.set i x) :=
  ⟨h.ht, isPts_ok (isPts_set hps i hx) (by rw [List.length_set]; exact h.len), h.up, isPts_nnL (isPts_set hps i hx), by rw [List.length_set]; exact h.len, h.n1, h.n8⟩
/-- The pair that is told, and what is told of it. -/
theorem OkP.widest (hps : isPts ps) : ∃ b : Nat, b < t.length ∧ outWP t ps = ((b : Int), endV t (ps.set b 0), 0) ∧ (∀ j, j < t.length → endV t (ps.set b 0) ≤ endV t (ps.set j 0)) ∧ (∀ j, j < b → endV t (ps.set b 0) < endV t (ps.set j 0)) := by
  obtain ⟨b, h1, h2, h3, h4⟩ := wid_all (f := lessV t ps) (fun i => (h.set i (by unfold isPt; omega) hps).end_nn) (n := ps.length) (by have := h.n1; have := h.len; omega)
  have hl := h.len
  exact ⟨b, by omega, by rw [outWP_ok h.ht h.hp, h2]; rfl, fun j hj => h3 j (by omega), h4⟩
end
end Go.Proofs.Ytpkmmelinfcdaaa
namespace Go.Proofs.Ytpkmmelinfcdaaa
open Go.RowKit Ieee
open Go.Proofs.YtpkmmelinfcdaaaW.PrintWords
set_option maxRecDepth 100000

def lowsL (ps qs : List Nat) (k : Nat) : List Nat := (List.range k).map fun i => min (ps.getD i 0) (qs.getD i 0)
def highsL (ps qs : List Nat) (k : Nat) : List Nat := (List.range k).map fun i => max (ps.getD i 0) (qs.getD i 0)
theorem lowsL_succ (ps qs : List Nat) (k : Nat) : lowsL ps qs (k + 1) = lowsL ps qs k ++ [min (ps.getD k 0) (qs.getD k 0)] := by simp [lowsL, List.range_succ]
theorem highsL_succ (ps qs : List Nat) (k : Nat) : highsL ps qs (k + 1) = highsL ps qs k ++ [max (ps.getD k 0) (qs.getD k 0)] := by simp [highsL, List.range_succ]
theorem lowsL_len (ps qs : List Nat) (k : Nat) : (lowsL ps qs k).length = k := by simp [lowsL]
theorem highsL_len (ps qs : List Nat) (k : Nat) : (highsL ps qs k).length = k := by simp [highsL]
theorem lowsL_get (ps qs : List Nat) (k i : Nat) : (lowsL ps qs k).getD i 0 = if i < k then min (ps.getD i 0) (qs.getD i 0) else 0 := by
  by_cases h : i < k
  · simp [lowsL, List.getD_eq_getElem?_getD, h]
  · rw [List.getD_eq_getElem?_getD, List.getElem?_eq_none (by rw [lowsL_len]; omega), if_neg h]; rfl
theorem highsL_get (ps qs : List Nat) (k i : Nat) : (highsL ps qs k).getD i 0 = if i < k then max (ps.getD i 0) (qs.getD i 0) else 0 := by
  by_cases h : i < k
  · simp [highsL, List.getD_eq_getElem?_getD, h]
  · rw [List.getD_eq_getElem?_getD, List.getElem?_eq_none (by rw [highsL_len]; omega), if_neg h]; rfl
theorem lowsL_pts {ps qs : List Nat} (hp : isPts ps) (k : Nat) : isPts (lowsL ps qs k) := by
  intro i
  rw [lowsL_get]
  have := hp i
  unfold isPt at *
  split <;> omega
theorem highsL_pts {ps qs : List Nat} (hp : isPts ps) (hq : isPts qs) (k : Nat) : isPts (highsL ps qs k) := by
  intro i
  rw [highsL_get]
  have := hp i
  have := hq i
  unfold isPt at *
  split <;> omega
theorem getD_over {ps : List Nat} {i : Nat} (h : ps.length ≤ i) : ps.getD i 0 = 0 := by
  rw [List.getD_eq_getElem?_getD, List.getElem?_eq_none h]; rfl
theorem lowsL_le (ps qs : List Nat) (k : Nat) : leL (lowsL ps qs k) ps ∧ leL (lowsL ps qs k) qs := by
  constructor <;> intro i <;> rw [lowsL_get] <;> split <;> omega
theorem le_highsL {ps qs : List Nat} {k : Nat} (hp : ps.length = k) (hq : qs.length = k) : leL ps (highsL ps qs k) ∧ leL qs (highsL ps qs k) := by
  constructor <;> intro i <;> rw [highsL_get] <;> split
  · omega
  · rw [getD_over (by omega)]; omega
  · omega
  · rw [getD_over (by omega)]; omega
theorem leL_trans {a b c : List Nat} (h : leL a b) (k : leL b c) : leL a c := fun i => Nat.le_trans (h i) (k i)
end Go.Proofs.Ytpkmmelinfcdaaa
