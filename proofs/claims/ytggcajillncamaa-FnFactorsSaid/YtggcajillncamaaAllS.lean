/- All factors of a box: plain. All factors of a box: the model's function. -/
import Derived.Test.YtggcajillncamaaPlay
import Derived.Test.YtggcajillncamaaFacP
import Derived.Test.YtggcajillncamaaBx
import Derived.KernelRfl
import Derived.Test.YtggcajillncamaaSo13
namespace Go.Proofs.Ytggcajillncamaa
open Ieee
set_option maxRecDepth 100000
theorem fi_small : ((List.range 201).all fun n => decide (fi (n : Nat) < infW) && (decide (n = 0) || decide (0 < fi (n : Nat)))) = true := by kernel_rfl
theorem fi_inf {n : Int} (h0 : 0 ≤ n) (h1 : n ≤ 200) : fi n < infW := by
  have h := List.all_eq_true.1 fi_small n.toNat (List.mem_range.2 (by omega))
  simp only [Bool.and_eq_true, decide_eq_true_eq] at h
  have e : ((n.toNat : Nat) : Int) = n := by omega
  rw [e] at h
  exact h.1
theorem fi_gt0 {n : Int} (h0 : 1 ≤ n) (h1 : n ≤ 200) : 0 < fi n := by
  have h := List.all_eq_true.1 fi_small n.toNat (List.mem_range.2 (by omega))
  simp only [Bool.and_eq_true, Bool.or_eq_true, decide_eq_true_eq] at h
  have e : ((n.toNat : Nat) : Int) = n := by omega
  rw [e] at h
  rcases h.2 with h | h
  · omega
  · exact h
/-- Wheels that a box may have. -/
def allW (l : List Int) : Prop := ∀ k, k < l.length → 6 ≤ l.getD k 0 ∧ l.getD k 0 ≤ 200
theorem allW_of {l : List Int} (h : boxOk l = true) : allW l ∧ 2 ≤ l.length ∧ l.length ≤ 24 := by
  unfold boxOk at h
  rw [Bool.and_eq_true] at h
  obtain ⟨h1, h2⟩ := h
  have h2' : 2 ≤ l.length ∧ l.length ≤ 24 := by unfold iin at h2; simp at h2; omega
  refine ⟨fun k hk => ?_, h2'⟩
  have h3 : bxTo l (k + 1) = true := by
    cases h4 : bxTo l (k + 1)
    · rw [bxTo_mono l (show k + 1 ≤ l.length from hk) h4] at h1; cases h1
    · rfl
  rw [bxTo] at h3
  simp only [Bool.and_eq_true] at h3
  have h5 := h3.2.1
  unfold iin at h5
  simp only [Bool.and_eq_true, decide_eq_true_eq] at h5
  exact h5
theorem upV_nn {p q : Int} (h1 : 6 ≤ p) (h2 : p ≤ 200) (h3 : 6 ≤ q) (h4 : q ≤ 200) : nn (upV p q) := nn_fdiv (fi_inf (by omega) h2) (fi_gt0 (by omega) h4) (fi_inf (by omega) h4)
/-- The factor of two wheels of a box. -/
def fq (l : List Int) (a b : Nat) : Nat := upV (l.getD a 0) (l.getD b 0)
theorem fq_nn {l : List Int} (h : allW l) {a b : Nat} (ha : a < l.length) (hb : b < l.length) : nn (fq l a b) := upV_nn (h a ha).1 (h a ha).2 (h b hb).1 (h b hb).2
/-- The factors of wheel a and the first k wheels. -/
def qsRow (l : List Int) (a : Nat) : Nat → List Nat
  | 0 => []
  | k + 1 => if a = k then qsRow l a k else qsRow l a k ++ [fq l a k]
def qsTo (l : List Int) : Nat → List Nat
  | 0 => []
  | a + 1 => qsTo l a ++ qsRow l a l.length
/-- The factors of all pairs, in their order. -/
def qs (l : List Int) : List Nat := qsTo l l.length
theorem qsRow_nn {l : List Int} (h : allW l) {a : Nat} (ha : a < l.length) : ∀ k, k ≤ l.length → allNn (qsRow l a k)
  | 0, _ => fun _ h => by cases h
  | k + 1, hk => by
    unfold qsRow
    split
    · exact qsRow_nn h ha k (by omega)
    · intro x hx
      rcases List.mem_append.1 hx with hx | hx
      · exact qsRow_nn h ha k (by omega) x hx
      · rw [List.mem_singleton.1 hx]; exact fq_nn h ha (by omega)
theorem qsTo_nn {l : List Int} (h : allW l) : ∀ a, a ≤ l.length → allNn (qsTo l a)
  | 0, _ => fun _ h => by cases h
  | a + 1, ha => fun x hx => by
    rcases List.mem_append.1 hx with hx | hx
    · exact qsTo_nn h a (by omega) x hx
    · exact qsRow_nn h (by omega) l.length (Nat.le_refl _) x hx
theorem qsRow_len (l : List Int) (a : Nat) : ∀ k, (qsRow l a k).length ≤ k
  | 0 => Nat.le_refl _
  | k + 1 => by
    unfold qsRow
    have := qsRow_len l a k
    split
    · omega
    · simp; omega
theorem qsTo_len (l : List Int) : ∀ a, (qsTo l a).length ≤ a * l.length
  | 0 => by simp [qsTo]
  | a + 1 => by
    rw [qsTo, List.length_append]
    have h1 := qsTo_len l a
    have h2 := qsRow_len l a l.length
    rw [Nat.add_mul]; omega
theorem insA_snoc (xs out : List Nat) (v : Nat) : insA (xs ++ [v]) out = insU v (insA xs out) := by unfold insA; rw [List.foldl_append]; rfl
theorem insU_len (v : Nat) : ∀ l : List Nat, (insU v l).length ≤ l.length + 1
  | [] => by simp [insU]
  | a :: l => by
    have := insU_len v l
    unfold insU
    split
    · simp; omega
    · split <;> simp
theorem insA_len : ∀ (xs out : List Nat), (insA xs out).length ≤ xs.length + out.length
  | [], out => by simp [insA]
  | v :: xs, out => by
    have h1 := insA_len xs (insU v out)
    have h2 := insU_len v out
    have e : insA (v :: xs) out = insA xs (insU v out) := rfl
    rw [e, List.length_cons]
    omega
/-- Where a number belongs: all before are less, the one there is not. -/
theorem insU_at {v : Nat} : ∀ (l : List Nat) (k : Nat), k ≤ l.length → (∀ j, j < k → flt (l.getD j 0) v = true) → (k < l.length → flt (l.getD k 0) v = false) →
    insU v l = if k < l.length ∧ feq (l.getD k 0) v = true then l else l.take k ++ v :: l.drop k
  | [], 0, _, _, _ => rfl
  | [], k + 1, h, _, _ => absurd h (by simp)
  | a :: l, 0, _, _, h2 => by
    have := h2 (by simp)
    rw [List.getD_cons_zero] at this
    unfold insU
    rw [this]
    simp only [Bool.false_eq_true, if_false, List.getD_cons_zero, List.length_cons, Nat.zero_lt_succ, true_and, List.take_zero, List.drop_zero, List.nil_append]
  | a :: l, k + 1, h, h1, h2 => by
    have h0 := h1 0 (by omega)
    rw [List.getD_cons_zero] at h0
    have ih := insU_at l k (by simpa using h) (fun j hj => by have := h1 (j + 1) (by omega); rwa [List.getD_cons_succ] at this) (fun hk => by have := h2 (by simpa using hk); rwa [List.getD_cons_succ] at this)
    unfold insU
    rw [h0, if_pos rfl, ih]
    simp only [List.getD_cons_succ, List.length_cons, Nat.add_lt_add_iff_right, List.take_succ_cons, List.drop_succ_cons, List.cons_append]
    split <;> rfl
theorem insA_nn : ∀ {xs out : List Nat}, allNn xs → allNn out → allNn (insA xs out)
  | [], out, _, h => h
  | v :: xs, out, h1, h2 => insA_nn (xs := xs) (out := insU v out) (fun x hx => h1 x (List.mem_cons_of_mem _ hx)) (nn_insU (h1 v List.mem_cons_self) h2)
/-- All factors, each once, in ascending order. -/
def allF (l : List Int) : List Nat := insA (qs l) []
end Go.Proofs.Ytggcajillncamaa
namespace Go.Proofs.Ytggcajillncamaa
open Go.RowKit Ieee
open Go.Proofs.YtggcajillncamaaW.PrintWords
set_option maxRecDepth 100000
attribute [local irreducible] wpRel
section
variable {ops : Array Oper} {rest : List Oper} {o : Oper} {a : Act} {Q : Exit → Act → World → Prop}
/-- append(v, ys...) of floats, whichever base. -/
theorem catB (base : Nat) {W : World} (hgd : o.guard = none) (s x : Operand) (ho : o.op = .call { callee := .builtin .append, args := #[s, x], argTypes := #[28, 28] })
    (v : Value) (xs ys : List Nat) (A : Option Addr) (m c : Nat) (hs : a.eval s = v) (hx : a.eval x = .slice A m c)
    (HO : RW kf 26 W base v xs) (HR : Kd.C kf W A m ys) (hb : base ≤ W.heap.size) (hl : xs.length + m ≤ 2097152)
    (h : ∀ v1 w1, RW kf 26 w1 base v1 (xs ++ ys) → W.grownBy w1 v.ownBlock → (v1.ownBlock = v.ownBlock ∨ ∃ b, v1.ownBlock = some b ∧ W.heap.size ≤ b) → wpList Try.prog ops Q rest (a.put o.dst v1) w1) :
    wpList Try.prog ops Q (o :: rest) a W :=
  Kd.R_append_rows kf (Rr := kf.K W) (w0 := W) base hgd s x 28 26 (.float .f32 0) 4 ho Try.underlying28 info_f32 rfl (by decide) (by decide) v xs ys A m c (fun _ => True) (fun _ => False) hs hx HO HR (fun _ _ h => h) (fun _ h => h.elim) (fun _ _ => trivial) (Below.refl _ _) hb (by omega) fun v1 w1 h1 _ h2 h3 => h v1 w1 h1 h2 h3
/-- append(v, x) of one float, whichever base. -/
theorem apFb (base : Nat) {W : World} {r z : Nat} (hgd : o.guard = none) (s x : Operand) (ho : o.op = .call { callee := .builtin .append, args := #[s, x], argTypes := #[28, 28] })
    (v : Value) (xs : List Nat) (hs : a.eval s = v) (hx : a.eval x = .slice (some ⟨W.heap.size, 0, none⟩) 1 1)
    (HO : RW kf 26 W base v xs) (hb : base ≤ W.heap.size) (hl : xs.length ≤ 1048576) (hr : FV r z)
    (h : ∀ v1 w1, RW kf 26 w1 base v1 (xs ++ [z]) → W.grownBy w1 v.ownBlock → (v1.ownBlock = v.ownBlock ∨ ∃ b, v1.ownBlock = some b ∧ W.heap.size ≤ b) → wpList Try.prog ops Q rest (a.put o.dst v1) w1) :
    wpList Try.prog ops Q (o :: rest) a (W.alloc (.cells #[.float .f32 r] 26)) :=
  Kd.R_append kf (w0 := W) base hgd s x 28 26 (.float .f32 0) 4 ho Try.underlying28 info_f32 rfl (by decide) (by decide) v xs z [.float .f32 r] (fun _ => True) (fun _ => False) hs hx ⟨r, rfl, hr⟩ (fun _ h => h.elim) (fun _ _ => trivial) HO (Below.refl _ _) hb (by omega) fun v1 w1 h1 _ h2 h3 => h v1 w1 h1 h2 h3
end
theorem info_f32' : ∃ i, Try.prog.info? 26 = some i ∧ i.size = 1 := by
  obtain ⟨i, h, e⟩ := Option.map_eq_some_iff.1 info_f32
  simp only [Prod.mk.injEq] at e
  exact ⟨i, h, e.2.1⟩
/-- Where a slice from place k on begins. -/
def cutAd (A : Option Addr) (c k : Nat) : Option Addr := if c = k then A else A.map (·.add (k * 1))
theorem cut_C {w : World} {A : Option Addr} {xs : List Nat} {c m : Nat} (h : Kd.C kf w A xs.length xs) (hm : m ≤ xs.length) (hc : xs.length ≤ c) : Kd.C kf w (cutAd A c m) (xs.length - m) (xs.drop m) := by
  have := Kd.C_drop h hm hc
  rw [List.length_drop] at this
  exact this
/-- A slice of floats from place k on, up to place k. -/
theorem cutF (A : Option Addr) (n c k : Nat) (hk : k ≤ n) (W : World) : (Instr.slice 28 (.slice A n c) (some (.int .i64 (k : Int))) none none).run Try.prog W = .ok (.slice (cutAd A c k) (n - k) (c - k)) W := by
  obtain ⟨i, hi, hs⟩ := info_f32'
  have := cut_from (P := Try.prog) 28 26 .i64 Try.underlying28 hi 1 hs A n c (k : Int) (by omega) (by omega) W
  simpa only [Int.toNat_natCast, cutAd] using this
theorem cutT (A : Option Addr) (n c k : Nat) (hk : k ≤ n) (hc : n ≤ c) (W : World) : (Instr.slice 28 (.slice A n c) none (some (.int .i64 (k : Int))) none).run Try.prog W = .ok (.slice A k c) W := by
  obtain ⟨i, hi, hs⟩ := info_f32'
  have := cut_to (P := Try.prog) 28 26 .i64 Try.underlying28 hi A n c (k : Int) (by omega) (by omega) hc W
  simpa only [Int.toNat_natCast] using this
theorem at_nn {w : World} {A : Option Addr} {n : Nat} {l : List Nat} (h : Kd.C kf w A n l) (hn : allNn l) (hl : l.length = n) (i : Nat) (hi : i < n) :
    ∃ b off, A = some ⟨b, off, none⟩ ∧ b < w.heap.size ∧ w.cell? ⟨b, off + i, none⟩ = some (.float .f32 (l.getD i 0)) ∧ nn (l.getD i 0) := by
  obtain ⟨b, off, r, e, hb, hc, hr⟩ := at_kf h i hi
  have hx : nn (l.getD i 0) := by rw [List.getD_eq_getElem?_getD, List.getElem?_eq_getElem (by omega)]; exact hn _ (List.getElem_mem (by omega))
  rw [FV_nnS hr hx] at hc
  exact ⟨b, off, e, hb, hc, hx⟩
set_option maxHeartbeats 8000000 in
theorem l05All_any (A : Option Addr) (c : Nat) (l : List Int) (w : World) (hA : Kd.C ki16 w A l.length l) (hm : l.length ≤ 24) (hw : allW l) :
    Calls Try.prog 25 #[.slice A l.length c] w fun e w' => ∃ v, e = .returned v ∧ RW kf 26 w' w.heap.size v (allF l) ∧ Below w.heap.size w w' := by
  have HA := Lib.hid hA
  have HW := Lib.hid hw
  have HR0 := Lib.hid (RW.empty (w := w.alloc (.cells #[] 26)) kf 26 w.heap.size w.heap.size (heap_alloc_new w _) (Nat.le_refl _))
  clear hA hw
  go_enter Try.func25, Try.ntmps25
  go_wp2
  go_loopw [3, 4, 5, 6, 7, 8] (fun v i _ _ _ _ wr => ∃ a : Nat, a ≤ l.length ∧ i = .int .i64 a ∧ Hid (RW kf 26 wr w.heap.size v (insA (qsTo l a) [])) ∧ Below w.heap.size w wr) (fun _ i _ _ _ _ _ => l.length - (intOf i).toNat)
  case atStart => exact ⟨0, Nat.zero_le _, rfl, HR0, balloc (Below.refl _ _) _⟩
  case round =>
    clear HR0
    obtain ⟨a, ha, rfl, HR, hb⟩ := hrel
    by_cases hlt : a < l.length
    · go_wp2
      obtain ⟨wo, hwo⟩ : ∃ wo : World, wo = wr := ⟨_, rfl⟩
      subst hwo
      go_loopw [3, 5, 6, 7, 8] (fun v k _ _ _ wr => ∃ b : Nat, b ≤ l.length ∧ k = .int .i64 b ∧ Hid (RW kf 26 wr w.heap.size v (insA (qsTo l a ++ qsRow l a b) [])) ∧ Below w.heap.size w wr) (fun _ k _ _ _ _ => l.length - (intOf k).toNat)
      case atStart => exact ⟨0, Nat.zero_le _, rfl, Lib.hid (by rw [show qsRow l a 0 = [] from rfl, List.append_nil]; exact HR.out), hb⟩
      case round =>
        clear HR hb
        obtain ⟨b, hbl, rfl, HR, hb⟩ := hrel
        by_cases hlb : b < l.length
        · by_cases hab : a = b
          · subst hab
            have HR2 : Hid (RW kf 26 wr w.heap.size u3 (insA (qsTo l a ++ qsRow l a (a + 1)) [])) := Lib.hid (by rw [qsRow, if_pos rfl]; exact HR.out)
            go_wp2
            go_roundw
            case rel => exact ⟨a + 1, hlb, by go_num, HR2, hb⟩
            case measure => simp [intOf]; omega
          · have hab' : ¬ ((a : Int) = (b : Int)) := by omega
            have hx1 : (a : Int) < (l.length : Int) := by omega
            have hx2 : (b : Int) < (l.length : Int) := by omega
            have hx3 : (0 : Int) ≤ (a : Int) := by omega
            have hx4 : (0 : Int) ≤ (b : Int) := by omega
            obtain ⟨bk, off, rfl, hbk, c0, _, _⟩ := at_ki HA.out a hlt
            have c1 := at_ki1 HA.out b hlb bk off rfl
            have d0 := (bc hb bk (off + a) hbk).trans c0
            have d1 := (bc hb bk (off + b) hbk).trans c1
            have hl0 : bk < wr.heap.size := Nat.lt_of_lt_of_le hbk hb.size
            have hvn := fq_nn HW.out hlt hlb
            have HQ := Lib.hid (show upV (l.getD a 0) (l.getD b 0) = fq l a b from rfl)
            have HX := Lib.hid (show insA (qsTo l a ++ qsRow l a (b + 1)) [] = insU (fq l a b) (insA (qsTo l a ++ qsRow l a b) []) by rw [qsRow, if_neg hab, ← List.append_assoc, insA_snoc])
            have hnn : allNn (insA (qsTo l a ++ qsRow l a b) []) := insA_nn (fun x hx => by
              rcases List.mem_append.1 hx with hx | hx
              · exact qsTo_nn HW.out a (by omega) x hx
              · exact qsRow_nn HW.out hlt b (by omega) x hx) (fun x hx => by cases hx)
            have hlen : (insA (qsTo l a ++ qsRow l a b) []).length ≤ 1000 := by
              have h1 := insA_len (qsTo l a ++ qsRow l a b) []
              have h2 := qsTo_len l a
              have h3 := qsRow_len l a b
              rw [List.length_append] at h1
              have h4 : a * l.length ≤ 24 * 24 := Nat.mul_le_mul (by omega) hm
              simp at h1
              omega
            clear c0 c1
            obtain ⟨p, hp⟩ : ∃ p, l.getD a 0 = p := ⟨_, rfl⟩
            obtain ⟨q, hq⟩ : ∃ q, l.getD b 0 = q := ⟨_, rfl⟩
            obtain ⟨own, ho⟩ : ∃ x, fq l a b = x := ⟨_, rfl⟩
            obtain ⟨out, hout⟩ : ∃ x, insA (qsTo l a ++ qsRow l a b) [] = x := ⟨_, rfl⟩
            rw [hp] at d0 HQ
            rw [hq] at d1 HQ
            rw [ho] at hvn HQ HX
            rw [hout] at HR HX hnn hlen
            clear hp hq ho hout
            have HN := Lib.hid hnn
            have HV := Lib.hid hvn
            have HLN := Lib.hid hlen
            clear hnn hvn hlen
            obtain ⟨wi, hwi⟩ : ∃ wi : World, wi = wr := ⟨_, rfl⟩
            subst hwi
            go_wp2
            first | refine region_drewN (DFv (upV p q)) (by kernel_rfl) (by kernel_rfl) ?_ | refine region_drew (DFv (upV p q)) (by kernel_rfl) (by kernel_rfl) ?_
            repeat (first | (refine wpRel_plain rfl (fun K hK => ?_); intro w' hw'; obtain ⟨n', rfl⟩ := hw'; go_simp; refine ⟨?_, fun v hv => ?_⟩; (go_at_call 53; refine (quotient_any p q _).mono ?_; rintro e w'' ⟨r_, rfl, hr_, hd_⟩; exact ⟨_, rfl, ⟨r_, rfl, hr_⟩, (Drew.mk _ _).trans hd_⟩); obtain ⟨r33, rfl, h33⟩ := hv; (refine hK _ ?_; clear hK K n')) | (refine wpRel_plain rfl (fun K hK => ?_); intro w' hw'; obtain ⟨n', rfl⟩ := hw'; go_simp; refine ⟨Drew.mk _ _, hK _ ?_⟩; clear hK K n'))
            (refine wpRel_nil ?_; intro w' hw'; obtain ⟨nq, rfl⟩ := hw')
            obtain rfl : r33 = own := FV_nnS (by rw [← HQ.out]; exact h33) HV.out
            clear h33 d0 d1
            have hb1 := bdrewN hb nq
            have HR1 := Lib.hid (HR.out.drewN nq)
            obtain ⟨w1, hw1⟩ : ∃ w1 : World, wi.drewN nq = w1 := ⟨_, rfl⟩
            rw [hw1] at hb1 HR1 ⊢
            clear hw1 hb HR hl0
            obtain ⟨A1, c1, hv1, hc1, hC1⟩ := RW.reads HR1.out
            subst hv1
            have HC1 := Lib.hid hC1
            have HC1c := Lib.hid hc1
            clear hC1 hc1
            go_wp2
            go_loop [7] (fun k => ∃ t : Nat, t ≤ out.length ∧ k = .int .i64 t ∧ Hid (∀ j, j < t → flt (out.getD j 0) r33 = true)) (fun k => out.length - (intOf k).toNat)
            case atStart => exact ⟨0, Nat.zero_le _, rfl, Lib.hid (fun j hj => absurd hj (by omega))⟩
            case round =>
              obtain ⟨t, ht, rfl, HT⟩ := hrel
              have hlen := HLN.out
              by_cases htl : t < out.length
              · obtain ⟨b2, o2, rfl, hb2, e0, hxn⟩ := at_nn HC1.out HN.out rfl t htl
                have hf1 := nn_flt hxn HV.out
                have hf2 := nn_feq hxn HV.out
                have hy1 : (t : Int) < (out.length : Int) := by omega
                have hy2 : (0 : Int) ≤ (t : Int) := by omega
                cases hf : flt (out.getD t 0) r33
                · cases hfe : feq (out.getD t 0) r33
                  · have HFE := Lib.hid hfe
                    have HF := Lib.hid hf
                    have hx := insU_at (v := r33) out t ht HT.out (fun _ => HF.out)
                    rw [if_neg (fun h => by rw [HFE.out] at h; cases h.2)] at hx
                    have HXX := Lib.hid (HX.out.trans hx)
                    clear hx
                    obtain ⟨y, hy⟩ : ∃ y, out.getD t 0 = y := ⟨_, rfl⟩
                    rw [hy] at e0 hf hfe
                    clear hf1 hf2 hxn hy
                    have hcf := cutF (some ⟨b2, o2, none⟩) out.length c1 t ht
                    have hct := cutT (some ⟨b2, o2, none⟩) out.length c1 t ht HC1c.out
                    have hdr := cut_C HC1.out ht HC1c.out
                    obtain ⟨A2, hA2⟩ : ∃ A2, cutAd (some ⟨b2, o2, none⟩) c1 t = A2 := ⟨_, rfl⟩
                    rw [hA2] at hcf hdr
                    clear hA2
                    have HD := Lib.hid (Kd.C_below hdr (balloc (Below.refl _ w1) (.cells #[] 26)))
                    have HE := Lib.hid (RW.empty (w := w1.alloc (.cells #[] 26)) kf 26 w1.heap.size w1.heap.size (heap_alloc_new w1 _) (Nat.le_refl _))
                    clear hdr
                    have LTS := Lib.hid (show ∀ k, (Value.slice (some ⟨b2, o2, none⟩) out.length c1).ownBlock = some k → k < w1.heap.size from HR1.out.lt)
                    have LTB := Lib.hid (show ∀ k, (Value.slice (some ⟨b2, o2, none⟩) out.length c1).ownBlock = some k → w.heap.size ≤ k from HR1.out.base_le)
                    have hown : Hid ((Value.slice (some ⟨b2, o2, none⟩) t c1).ownBlock = (Value.slice (some ⟨b2, o2, none⟩) out.length c1).ownBlock) := Lib.hid (rfl)
                    have hws := hb1.size
                    go_wp2_with (first | (at_builtin; (refine catB w1.heap.size (o := ⟨some 64, _, _, _, _, _⟩) rfl (.tmp 60) (.tmp 63) rfl (.slice (some ⟨w1.heap.size, 0, none⟩) 0 0) [] (out.drop t) A2 (out.length - t) (c1 - t) ?zay64 ?zax64 HE.out HD.out (by simp) (by simp; omega) ?_; (case zay64 => rfl); (case zax64 => first | rfl | go_simp); intro v64 w64 ho_ hg_ hat_; rw [List.nil_append] at ho_; obtain ⟨A3, c3, hv64, _, _⟩ := RW.reads ho_; subst hv64; (have HO64 := Lib.hid ho_); (have HRw := Lib.hid ((HR1.out.alloc (.cells #[] 26)).grown rfl hg_ (fun k hk he => by have h1 := LTS.out k hk; have h2 : w1.heap.size = k := (by simpa [Value.ownBlock] using he.symm); omega))); (have hb64 : Below w.heap.size w w64 := (balloc hb1 (.cells #[] 26)).grown hg_ (by simp; omega) (fun k hk => by have h2 : w1.heap.size = k := (by simpa [Value.ownBlock] using hk); omega)); clear ho_ hg_ hat_; (have HTk := Lib.hid (show RW kf 26 w64 w.heap.size (.slice (some ⟨b2, o2, none⟩) t c1) (out.take t) from Kd.R_take HRw.out ht)); (have hws64 := hb64.size); (have HLT := Lib.hid (show (out.take t).length ≤ 1000 by rw [List.length_take]; omega)))) | (at_builtin; (refine apFb w.heap.size (o := ⟨some 70, _, _, _, _, _⟩) rfl (.tmp 67) (.tmp 69) rfl (.slice (some ⟨b2, o2, none⟩) t c1) (out.take t) ?zay70 ?zax70 HTk.out hws64 (by have := HLT.out; omega) (nn_FV HV.out) ?_; (case zay70 => first | rfl | go_simp); (case zax70 => first | rfl | go_simp); intro v70 w70 ho_ hg_ hat_; (have HO70 := Lib.hid ho_); (have HS70 := Lib.hid (HO64.out.grown rfl hg_ (fun k hk he => by rw [hown.out] at he; have h1 := LTS.out k he.symm; have h2 := HO64.out.base_le k hk; omega))); (have hb70 : Below w.heap.size w w70 := hb64.grown hg_ hws64 (fun k hk => by rw [hown.out] at hk; exact LTB.out k hk)); clear ho_ hg_ hat_; (have hrd := Kd.R_reads' HS70.out); obtain ⟨hn3, _, hC3⟩ := hrd; (have HC3 := Lib.hid hC3); (have hws70 := hb70.size); (have HL2 := Lib.hid (show (out.take t ++ [r33]).length + (out.drop t).length ≤ 2097152 by rw [List.length_append, List.length_take, List.length_drop]; simp; omega)); clear hC3 hn3)) | (at_builtin; (refine catB w.heap.size (o := ⟨some 72, _, _, _, _, _⟩) rfl (.tmp 70) (.tmp 71) rfl v70 (out.take t ++ [r33]) (out.drop t) A3 (out.drop t).length c3 ?zay72 ?zax72 HO70.out HC3.out hws70 HL2.out ?_; (case zay72 => first | rfl | go_simp); (case zax72 => first | rfl | go_simp); intro v72 w72 ho_ hg_ hat_; rw [List.append_assoc, List.singleton_append, ← HXX.out] at ho_; (have HO72 := Lib.hid ho_); (have hb72 : Below w.heap.size w w72 := hb70.grown hg_ hws70 (fun k hk => HO70.out.base_le k hk)); clear ho_ hg_ hat_)))
                    go_roundw
                    case rel => exact ⟨b + 1, hlb, by go_num, HO72, hb72⟩
                    case measure => simp [intOf]; omega
                  · have hx := insU_at (v := r33) out t ht HT.out (fun _ => hf)
                    rw [if_pos ⟨htl, hfe⟩] at hx
                    have HR2 := Lib.hid (show RW kf 26 w1 w.heap.size (.slice (some ⟨b2, o2, none⟩) out.length c1) (insA (qsTo l a ++ qsRow l a (b + 1)) []) by rw [HX.out, hx]; exact HR1.out)
                    clear hx
                    obtain ⟨y, hy⟩ : ∃ y, out.getD t 0 = y := ⟨_, rfl⟩
                    rw [hy] at e0 hf hfe
                    clear hf1 hf2 hxn hy
                    go_wp2
                    go_roundw
                    case rel => exact ⟨b + 1, hlb, by go_num, HR2, hb1⟩
                    case measure => simp [intOf]; omega
                · have HT2 : Hid (∀ j, j < t + 1 → flt (out.getD j 0) r33 = true) := Lib.hid (fun j hj => by
                    by_cases e : j = t
                    · subst e; exact hf
                    · exact HT.out j (by omega))
                  obtain ⟨y, hy⟩ : ∃ y, out.getD t 0 = y := ⟨_, rfl⟩
                  rw [hy] at e0 hf
                  clear hf1 hf2 hxn hy
                  go_wp2
                  go_round
                  case rel => exact ⟨t + 1, htl, by go_num, HT2⟩
                  case measure => simp [intOf]; omega
              · have hy0 : ¬ ((t : Int) < (out.length : Int)) := by omega
                have hx := insU_at (v := r33) out t ht HT.out (fun h => absurd h htl)
                rw [if_neg (fun h => absurd h.1 htl)] at hx
                have HXX := Lib.hid (HX.out.trans hx)
                clear hx
                have hcf := cutF A1 out.length c1 t ht
                have hct := cutT A1 out.length c1 t ht HC1c.out
                have hdr := cut_C HC1.out ht HC1c.out
                obtain ⟨A2, hA2⟩ : ∃ A2, cutAd A1 c1 t = A2 := ⟨_, rfl⟩
                rw [hA2] at hcf hdr
                clear hA2
                have HD := Lib.hid (Kd.C_below hdr (balloc (Below.refl _ w1) (.cells #[] 26)))
                have HE := Lib.hid (RW.empty (w := w1.alloc (.cells #[] 26)) kf 26 w1.heap.size w1.heap.size (heap_alloc_new w1 _) (Nat.le_refl _))
                clear hdr
                have LTS := Lib.hid (show ∀ k, (Value.slice A1 out.length c1).ownBlock = some k → k < w1.heap.size from HR1.out.lt)
                have LTB := Lib.hid (show ∀ k, (Value.slice A1 out.length c1).ownBlock = some k → w.heap.size ≤ k from HR1.out.base_le)
                have hown : Hid ((Value.slice A1 t c1).ownBlock = (Value.slice A1 out.length c1).ownBlock) := Lib.hid (by cases A1 <;> rfl)
                have hws := hb1.size
                go_wp2_with (first | (at_builtin; (refine catB w1.heap.size (o := ⟨some 64, _, _, _, _, _⟩) rfl (.tmp 60) (.tmp 63) rfl (.slice (some ⟨w1.heap.size, 0, none⟩) 0 0) [] (out.drop t) A2 (out.length - t) (c1 - t) ?zby64 ?zbx64 HE.out HD.out (by simp) (by simp; omega) ?_; (case zby64 => rfl); (case zbx64 => first | rfl | go_simp); intro v64 w64 ho_ hg_ hat_; rw [List.nil_append] at ho_; obtain ⟨A3, c3, hv64, _, _⟩ := RW.reads ho_; subst hv64; (have HO64 := Lib.hid ho_); (have HRw := Lib.hid ((HR1.out.alloc (.cells #[] 26)).grown rfl hg_ (fun k hk he => by have h1 := LTS.out k hk; have h2 : w1.heap.size = k := (by simpa [Value.ownBlock] using he.symm); omega))); (have hb64 : Below w.heap.size w w64 := (balloc hb1 (.cells #[] 26)).grown hg_ (by simp; omega) (fun k hk => by have h2 : w1.heap.size = k := (by simpa [Value.ownBlock] using hk); omega)); clear ho_ hg_ hat_; (have HTk := Lib.hid (show RW kf 26 w64 w.heap.size (.slice A1 t c1) (out.take t) from Kd.R_take HRw.out ht)); (have hws64 := hb64.size); (have HLT := Lib.hid (show (out.take t).length ≤ 1000 by rw [List.length_take]; omega)))) | (at_builtin; (refine apFb w.heap.size (o := ⟨some 70, _, _, _, _, _⟩) rfl (.tmp 67) (.tmp 69) rfl (.slice A1 t c1) (out.take t) ?zby70 ?zbx70 HTk.out hws64 (by have := HLT.out; omega) (nn_FV HV.out) ?_; (case zby70 => first | rfl | go_simp); (case zbx70 => first | rfl | go_simp); intro v70 w70 ho_ hg_ hat_; (have HO70 := Lib.hid ho_); (have HS70 := Lib.hid (HO64.out.grown rfl hg_ (fun k hk he => by rw [hown.out] at he; have h1 := LTS.out k he.symm; have h2 := HO64.out.base_le k hk; omega))); (have hb70 : Below w.heap.size w w70 := hb64.grown hg_ hws64 (fun k hk => by rw [hown.out] at hk; exact LTB.out k hk)); clear ho_ hg_ hat_; (have hrd := Kd.R_reads' HS70.out); obtain ⟨hn3, _, hC3⟩ := hrd; (have HC3 := Lib.hid hC3); (have hws70 := hb70.size); (have HL2 := Lib.hid (show (out.take t ++ [r33]).length + (out.drop t).length ≤ 2097152 by rw [List.length_append, List.length_take, List.length_drop]; simp; omega)); clear hC3 hn3)) | (at_builtin; (refine catB w.heap.size (o := ⟨some 72, _, _, _, _, _⟩) rfl (.tmp 70) (.tmp 71) rfl v70 (out.take t ++ [r33]) (out.drop t) A3 (out.drop t).length c3 ?zby72 ?zbx72 HO70.out HC3.out hws70 HL2.out ?_; (case zby72 => first | rfl | go_simp); (case zbx72 => first | rfl | go_simp); intro v72 w72 ho_ hg_ hat_; rw [List.append_assoc, List.singleton_append, ← HXX.out] at ho_; (have HO72 := Lib.hid ho_); (have hb72 : Below w.heap.size w w72 := hb70.grown hg_ hws70 (fun k hk => HO70.out.base_le k hk)); clear ho_ hg_ hat_)))
                go_roundw
                case rel => exact ⟨b + 1, hlb, by go_num, HO72, hb72⟩
                case measure => simp [intOf]; omega
        · obtain rfl : b = l.length := by omega
          go_wp2
          go_roundw
          case rel => exact ⟨a + 1, hlt, by go_num, HR, hb⟩
          case measure => simp [intOf]; omega
    · obtain rfl : a = l.length := by omega
      go_wp2
      go_ret
      exact ⟨_, rfl, HR.out, hb⟩
end Go.Proofs.Ytggcajillncamaa
