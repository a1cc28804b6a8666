/- The smaller one of a float and a number that is no nought, as the machine's built-in gives it. Torques along a train: both sides. -/
import Derived.Test.YtgdaompppclnlaaF6
import Derived.Test.YtgdaompppclnlaaPlay
import Derived.Test.YtgdaompppclnlaaNeg
import Derived.Test.YtgdaompppclnlaaRow
namespace Go.Proofs.Ytgdaompppclnlaa
open Go.RowKit Ieee
set_option maxRecDepth 100000

def fminc (c m : Nat) : Nat := if flt c m = true then c else m
theorem cutc_eq (b : Bool) (x y t : Nat) : Question.cut (.nanMinMax .f32 b x y) t = (t % 2) * 2147483648 + 2139095041 + (t / 2) % 8388607 := by
  simp [Question.cut]
/-- A number that is no nought. -/
def NumC (c : Nat) : Prop := isn c = false ∧ skey single c ≠ 0 ∧ c < 4294967296
theorem NumC.cn {c : Nat} (h : NumC c) : cn c = c := cn_of_not h.1


theorem eq_c {c x : Nat} (hC : NumC c) (hx : x < 4294967296) (h : single.order x c = some .eq) : x = c := by
  cases hn : isn x
  · have h1 : (single.read c).isNaN = false := hC.1
    rw [order_skey single single_bi hn h1] at h
    have hk : skey single x = skey single c := by
      have : compare (skey single x) (skey single c) = .eq := by simpa using h
      exact Int.compare_eq_eq.1 this
    exact skey_inj single (show x < 2 * single.signWeight by have e : single.signWeight = 2147483648 := rfl; omega) (show c < 2 * single.signWeight by have e : single.signWeight = 2147483648 := rfl; have := hC.2.2; omega) hk (by rw [hk]; exact hC.2.1)
  · rw [order_nl _ hn] at h; cases h

theorem run_minc {P : Program} {c : Nat} (hC : NumC c) (w : World) (ts : Array TypeId) (t : TypeId) {x : Nat} (hx : x < 4294967296) :
    ∃ r n, (Builtin.min_ ts t #[.float .f32 x, .float .f32 c]).run P w = .ok (.float .f32 r) (w.drewN n) ∧ FV r (fminc c (cn x)) := by
  have hrun : ∀ o, single.order x c = o → (Builtin.min_ ts t #[.float .f32 x, .float .f32 c]).run P w =
      (match o with
        | none => (do pure (.float .f32 (← choose (.nanMinMax .f32 false x c))) : Sem Value)
        | some .lt => pure (.float .f32 x)
        | some .gt => pure (.float .f32 c)
        | some .eq => pure (.float .f32 (if (single.read x).neg then x else c))).run P w := fun o ho => by
    have e : FloatKind.f32.format.order x c = o := ho
    simp only [Builtin.min_, Builtin.min2, List.foldlM, e]
    cases o with
    | none => simp [choose, Sem.run, Question.forced]
    | some o => cases o <;> rfl
  have hsw : flt c (cn x) = (single.order x c == some .gt) := by
    have e1 : flt c (cn x) = flt c x := by
      have := flt_cn c x
      rwa [hC.cn] at this
    rw [e1]
    unfold flt
    rw [single_swap x c]
    cases single.order x c with
    | none => rfl
    | some o => cases o <;> rfl
  unfold fminc
  rw [hsw]
  cases ho : single.order x c with
  | none =>
    have hn : isn x = true := by
      cases hn : isn x
      · have h1 : (single.read c).isNaN = false := hC.1
        rw [order_skey single single_bi hn h1] at ho; cases ho
      · rfl
    obtain ⟨h4, h5⟩ := cut_word (w.tape w.drawn (.nanMinMax .f32 false x c))
    refine ⟨Question.cut (.nanMinMax .f32 false x c) (w.tape w.drawn (.nanMinMax .f32 false x c)), 1, ?_, ?_, ?_⟩
    · rw [hrun _ ho]
      simp [choose, Sem.run, Question.forced]
      rfl
    · rw [cutc_eq, cn_of_isn h4]
      simp [cn_of_isn hn]
    · rw [cutc_eq]; exact h5
  | some o =>
    cases o with
    | lt => exact ⟨x, 0, by rw [hrun _ ho]; rfl, by simp, hx⟩
    | gt => exact ⟨c, 0, by rw [hrun _ ho]; rfl, by simp; exact hC.cn, hC.2.2⟩
    | eq =>
      have he := eq_c hC hx ho
      subst he
      refine ⟨x, 0, ?_, ?_, hx⟩
      · rw [hrun _ ho]; simp; rfl
      · simp

theorem relOp_minc {P : Program} {C : World → Prop} {D : Option Tmp → Value → Prop} {o : Oper} {a : Act} {K : Act → Prop} (hC : ∀ w n, C w → C (w.drewN n))
    {ts : Array TypeId} {x y : Operand} {c : Nat} (hNC : NumC c) (ho : o.op = .call { callee := .builtin .min, args := #[x, y], argTypes := ts })
    {p : Nat} (hp : p < 4294967296) (hx : a.eval x = .float .f32 p) (hy : a.eval y = .float .f32 c)
    (h : ∀ r, FV r (fminc c (cn p)) → K (a.put o.dst (.float .f32 r))) : relOp P C D o a K := by
  intro w hw
  obtain ⟨r, n, hr, hv⟩ := run_minc (P := P) hNC w ts o.type hp
  unfold execOp
  simp only [ho, resolve, invoke, builtin, Sem.run_bind, Sem.run_pure, Result.andThen_ok, List.map_toArray, List.map_cons, List.map_nil, hx, hy, hr]
  exact ⟨hC w n hw, h r hv⟩

/-- The bound of sizes, 2 to the 20. -/
theorem numM : NumC 1233125376 := ⟨by decide, by decide, by decide⟩
theorem flt_cl {c r x : Nat} (hC : NumC c) (h : FV r x) : flt c r = flt c x := by
  have := flt_cn c r
  rw [h.1, hC.cn] at this
  exact this.symm
theorem fminc_hit {c r x : Nat} (hC : NumC c) (h : FV r x) (hq : flt c r = true) : FV c (fminc c x) := by
  unfold fminc
  rw [← flt_cl hC h, hq]
  exact ⟨hC.cn, hC.2.2⟩
theorem fminc_miss {c r x : Nat} (hC : NumC c) (h : FV r x) (hq : flt c r = false) : FV r (fminc c x) := by
  unfold fminc
  rw [← flt_cl hC h, hq]
  exact h
end Go.Proofs.Ytgdaompppclnlaa
namespace Go.Proofs.Ytgdaompppclnlaa
open Go.RowKit Ieee
open Go.Proofs.YtgdaompppclnlaaW.PrintWords
set_option maxRecDepth 100000
attribute [local irreducible] wpRel

/-- A row of one float that has been written out. -/
theorem FR.one {w : World} (base g : Nat) {r x : Nat} (h : w.heap[g]? = some (.cells #[.float .f32 r] 31 (0, 0))) (hb : base ≤ g) (hr : FV r x) : FR w base (.slice (some ⟨g, 0, none⟩) 1 1) [x] :=
  ⟨fun _ _ => trivial, [.float .f32 r], ⟨by simp [kf], .inr ⟨g, 1, #[.float .f32 r], rfl, hb, h, by simp, by decide, rfl, rfl⟩⟩, by simp [kf], fun j p hj => by
    match j, hj with
    | 0, hj => simp at hj; subst hj; exact ⟨r, rfl, hr⟩⟩
def dnOf (p : Int × Int × Nat) : Nat := upV p.2.1 p.1
/-- The torque of axle i. -/
def torV (t : List (Int × Int × Nat)) (x : Nat) : Nat → Nat
  | 0 => x
  | i + 1 => fneg (fmul (fmul (torV t x i) (dnOf (t.getD i zP))) (fsub one32 (t.getD i zP).2.2))
def torL (t : List (Int × Int × Nat)) (x : Nat) (n : Nat) : List Nat := (List.range (n + 1)).map (torV t x)
theorem torL_succ (t : List (Int × Int × Nat)) (x n : Nat) : torL t x (n + 1) = torL t x n ++ [torV t x (n + 1)] := by unfold torL; rw [List.range_succ (n := n + 1), List.map_append]; rfl
theorem torL_zero (t : List (Int × Int × Nat)) (x : Nat) : torL t x 0 = [x] := rfl
theorem torL_length (t : List (Int × Int × Nat)) (x n : Nat) : (torL t x n).length = n + 1 := by simp [torL]
theorem torL_get (t : List (Int × Int × Nat)) (x : Nat) {n i : Nat} (h : i < n + 1) : (torL t x n).getD i 0 = torV t x i := by simp [torL, List.getD_eq_getElem?_getD, h]
def TorQ (t : List (Int × Int × Nat)) (x : Nat) (w : World) (e : Ending) (w' : World) : Prop := ∃ v, e = .returned v ∧ FR w' w.heap.size v (torL t x t.length) ∧ Below w.heap.size w w'
/-- An element of an own row of floats. -/
theorem at_FR' {w : World} {base : Nat} {v : Value} {xs : List Nat} (h : FR w base v xs) (n : Nat) (hn : xs.length = n) (i : Nat) (hi : i < n) :
    ∃ g c r, v = .slice (some ⟨g, 0, none⟩) n c ∧ g < w.heap.size ∧ w.cell? ⟨g, i, none⟩ = some (.float .f32 r) ∧ FV r (xs.getD i 0) := by
  subst hn
  obtain ⟨g, c, e, _, hg, _⟩ := Kd.R_form h.out (by omega)
  subst e
  obtain ⟨ce, hcl, hM, hcc, _⟩ := Kd.R_elem h.out 0 (i : Int) (by omega) (by omega)
  obtain ⟨r, rfl, hr⟩ := kf_openM hM
  have := hcc 0 _ rfl
  rw [show (i : Int).toNat * kf.sz + 0 = i from by show i * 1 + 0 = i; omega] at this
  exact ⟨g, c, r, rfl, hg, this, hr⟩
theorem tor_val {t : List (Int × Int × Nat)} {x k s d m l q u : Nat} (hs : FV s (torV t x k)) (hd : FV d (dnOf (t.getD k zP))) (hm : FV m (fop .mul (cn s) (cn d))) (hl : FV l (t.getD k zP).2.2) (hq : FV q (fop .sub (cn 1065353216) (cn l))) (hu : FV u (fop .mul (cn m) (cn q))) : FV (u ^^^ 2147483648) (torV t x (k + 1)) := by
  refine FV_neg (v := fmul (fmul (torV t x k) (dnOf (t.getD k zP))) (fsub one32 (t.getD k zP).2.2)) ?_
  rw [hm.1, hq.1, hs.1, hd.1, hl.1, show cn 1065353216 = one32 from by decide] at hu
  exact hu
theorem down_any (b off : Nat) (p q : Int) (w : World) (c0 : w.cell? ⟨b, off, none⟩ = some (.int .i16 p)) (c1 : w.cell? ⟨b, off + 1, none⟩ = some (.int .i16 q)) :
    Calls Try.prog 66 #[.pointer (some ⟨b, off, none⟩)] w (UpQ q p w) := by
  go_enter Try.func66, Try.ntmps66
  go_wp2
  first | refine region_drewN (DIs (.bool true)) (by kernel_rfl) (by kernel_rfl) ?_ | refine region_drew (DIs (.bool true)) (by kernel_rfl) (by kernel_rfl) ?_
  repeat (first | (refine wpRel_plain (o := ⟨some 13, _, _, _, _, _⟩) rfl (fun K hK => ?_); refine relOp_fop (drewN_Drew_closed _) rfl (by first | exact .inl rfl | exact .inr (.inl rfl) | exact .inr (.inr (.inl rfl)) | exact .inr (.inr (.inr rfl))) rfl rfl (fun r13 h13 => hK _ ?_); clear hK K) | (refine wpRel_plain rfl (fun K hK => ?_); intro w' hw'; obtain ⟨n', rfl⟩ := hw'; go_simp; refine ⟨Drew.mk _ _, hK _ ?_⟩; clear hK K n'))
  (refine wpRel_nil ?_; intro w' hw'; obtain ⟨nq, rfl⟩ := hw')
  have hv : FV r13 (upV q p) := by rw [cn_fi, cn_fi] at h13; exact h13
  go_wp2
  go_ret
  exact ⟨r13, rfl, hv, Drew.mk _ _⟩

set_option maxHeartbeats 8000000 in
theorem torques_spec (A : Option Addr) (c : Nat) (t : List (Int × Int × Nat)) (x r0 : Nat) (hr0 : FV r0 x) (w : World) (hA : Kd.C kP w A t.length t) (hm : t.length ≤ 1048576) :
    Calls Try.prog 55 #[.slice A t.length c, .float .f32 r0] w (TorQ t x w) := by
  have HA := Lib.hid hA
  have H0 := Lib.hid (FR.one (w := w.alloc (.cells #[.float .f32 r0] 31)) w.heap.size w.heap.size (heap_alloc_new w _) (Nat.le_refl _) hr0)
  clear hA hr0
  go_enter Try.func55, Try.ntmps55
  go_wp2
  go_loopw [5, 6] (fun v i wr => ∃ k : Nat, k ≤ t.length ∧ i = .int .i64 k ∧ Hid (FR wr w.heap.size v (torL t x k)) ∧ Below w.heap.size w wr) (fun _ i _ => t.length - (intOf i).toNat)
  case atStart => exact ⟨0, Nat.zero_le _, rfl, H0, by (repeat (first | with_reducible exact Below.refl _ _ | with_reducible refine bset ?_ (by first | (simp; done) | (simp; omega) | omega) _ | with_reducible refine balloc ?_ _ | with_reducible refine bdrewN ?_ _ | with_reducible refine bdrew ?_ | with_reducible refine bstep ?_ (by assumption)))⟩
  case round =>
    clear H0
    obtain ⟨k, hk, rfl, H1, hb⟩ := hrel
    by_cases hlt : k < t.length
    · obtain ⟨b, off, p, q, y, r, rfl, hbl, c0, c1, c2, hx, hr, _⟩ := at_kP HA.out k hlt
      have d0 := (bc hb b (off + k * 3) hbl).trans c0
      have d1 := (bc hb b (off + k * 3 + 1) hbl).trans c1
      have d2 := (bc hb b (off + k * 3 + 2) hbl).trans c2
      have l0 : b < wr.heap.size := Nat.lt_of_lt_of_le hbl hb.size
      obtain ⟨g1, cc1, x1, rfl, hg1, e1, hx1⟩ := at_FR' H1.out (k + 1) (torL_length _ _ _) k (Nat.lt_succ_self k)
      rw [torL_get _ _ (Nat.lt_succ_self k)] at hx1
      have HO1 := Lib.hid hx1
      have HUP := Lib.hid (show upV q p = dnOf (t.getD k zP) by rw [hx]; rfl)
      have HLo := Lib.hid (show FV r (t.getD k zP).2.2 by rw [hx]; exact hr)
      have HL2 := Lib.hid (show (torL t x k).length ≤ 1048576 by rw [torL_length]; omega)
      have hk1 : (k : Int) < (k : Int) + 1 := by omega
      clear c0 c1 c2 hx hr hx1
      obtain ⟨wo, hwo⟩ : ∃ wo : World, wo = wr := ⟨_, rfl⟩
      subst hwo
      go_wp2
      first | refine region_drewN (DFv (upV q p)) (by kernel_rfl) (by kernel_rfl) ?_ | refine region_drew (DFv (upV q p)) (by kernel_rfl) (by kernel_rfl) ?_
      repeat (first | (refine wpRel_plain rfl (fun K hK => ?_); intro w' hw'; obtain ⟨n', rfl⟩ := hw'; go_simp; refine ⟨?_, fun v hv => ?_⟩; (go_at_call 69; refine (quotient_any q p _).mono ?_; rintro e w'' ⟨r_, rfl, hr_, hd_⟩; exact ⟨_, rfl, ⟨r_, rfl, hr_⟩, (Drew.mk _ _).trans hd_⟩); obtain ⟨r30, rfl, h30⟩ := hv; (refine hK _ ?_; clear hK K n')) | (refine wpRel_plain (o := ⟨some 31, _, _, _, _, _⟩) rfl (fun K hK => ?_); refine relOp_fop (drewN_Drew_closed _) rfl (by first | exact .inl rfl | exact .inr (.inl rfl) | exact .inr (.inr (.inl rfl)) | exact .inr (.inr (.inr rfl))) rfl rfl (fun r31 h31 => hK _ ?_); clear hK K) | (refine wpRel_plain rfl (fun K hK => ?_); intro w' hw'; obtain ⟨n', rfl⟩ := hw'; go_simp; refine ⟨Drew.mk _ _, hK _ ?_⟩; clear hK K n'))
      (refine wpRel_nil ?_; intro w' hw'; obtain ⟨nq, rfl⟩ := hw')
      have h30' : FV r30 (dnOf (t.getD k zP)) := by rw [← HUP.out]; exact h30
      have HV3 := Lib.hid h30'
      have HV31 := Lib.hid h31
      clear h30 h30' h31
      go_wp2_with (first | (refine wpList_fop (o := ⟨some 39, _, _, _, _, _⟩) rfl rfl (by first | exact .inl rfl | exact .inr (.inl rfl) | exact .inr (.inr (.inl rfl)) | exact .inr (.inr (.inr rfl))) rfl rfl ?_; intro r39 n39 h39) | (refine wpList_fop (o := ⟨some 40, _, _, _, _, _⟩) rfl rfl (by first | exact .inl rfl | exact .inr (.inl rfl) | exact .inr (.inr (.inl rfl)) | exact .inr (.inr (.inr rfl))) rfl rfl ?_; intro r40 n40 h40) | (at_builtin; go_must ((refine apF (w0 := w) (o := ⟨some 43, _, _, _, _, _⟩) rfl (.tmp 32) (.tmp 42) rfl (.slice (some ⟨g1, 0, none⟩) (k + 1) cc1) (torL t x k) (torV t x (k + 1)) (r40 ^^^ 2147483648) ?y43 ?x43 (tor_val HO1.out HV3.out HV31.out HLo.out h39 h40) ?o43 ?b43 HL2.out ?_; (case y43 => rfl); (case x43 => go_simp); (case o43 => (with_reducible repeat (first | apply FR.alloc | apply FR.drewN | apply FR.drew)); exact H1.out); (case b43 => (repeat (first | with_reducible exact Below.refl _ _ | with_reducible refine bset ?_ (by first | (simp; done) | (simp; omega) | omega) _ | with_reducible refine balloc ?_ _ | with_reducible refine bdrewN ?_ _ | with_reducible refine bdrew ?_ | with_reducible refine bstep ?_ (by assumption)))); intro v43 w43 ho_ hb43 hg43 hat43; have HO43 := Lib.hid ho_; clear ho_ hg43 hat43))))
      go_roundw
      case rel => exact ⟨k + 1, hlt, by go_num, Lib.hid (by rw [torL_succ]; exact HO43.out), hb43⟩
      case measure => simp [intOf]; omega
    · have hkl : k = t.length := by omega
      subst hkl
      go_wp2
      go_ret
      exact ⟨_, rfl, H1.out, hb⟩
set_option maxHeartbeats 8000000 in
theorem torques_impl (A : Option Addr) (c : Nat) (t : List (Int × Int × Nat)) (x r0 : Nat) (hr0 : FV r0 x) (w : World) (hA : Kd.C kP w A t.length t) (hm : t.length ≤ 1048576) :
    Calls Try.prog 50 #[.slice A t.length c, .float .f32 r0] w (TorQ t x w) := by
  have HA := Lib.hid hA
  have H0 := Lib.hid (FR.one (w := w.alloc (.cells #[.float .f32 r0] 31)) w.heap.size w.heap.size (heap_alloc_new w _) (Nat.le_refl _) hr0)
  have HR0 := Lib.hid hr0
  clear hA hr0
  go_enter Try.func50, Try.ntmps50
  go_wp2
  go_loopw [1, 5, 12] (fun s v i wr => ∃ k r : Nat, k ≤ t.length ∧ i = .int .i64 k ∧ s = .float .f32 r ∧ Hid (FV r (torV t x k)) ∧ Hid (FR wr w.heap.size v (torL t x k)) ∧ Below w.heap.size w wr) (fun _ _ i _ => t.length - (intOf i).toNat)
  case atStart => exact ⟨0, r0, Nat.zero_le _, rfl, rfl, HR0, H0, by (repeat (first | with_reducible exact Below.refl _ _ | with_reducible refine bset ?_ (by first | (simp; done) | (simp; omega) | omega) _ | with_reducible refine balloc ?_ _ | with_reducible refine bdrewN ?_ _ | with_reducible refine bdrew ?_ | with_reducible refine bstep ?_ (by assumption)))⟩
  case round =>
    clear H0 HR0
    obtain ⟨k, s, hk, rfl, rfl, HS, H1, hb⟩ := hrel
    by_cases hlt : k < t.length
    · obtain ⟨b, off, p, q, y, r, rfl, hbl, c0, c1, c2, hx, hr, _⟩ := at_kP HA.out k hlt
      have d0 := (bc hb b (off + k * 3) hbl).trans c0
      have d1 := (bc hb b (off + k * 3 + 1) hbl).trans c1
      have d2 := (bc hb b (off + k * 3 + 2) hbl).trans c2
      have l0 : b < wr.heap.size := Nat.lt_of_lt_of_le hbl hb.size
      have HUP := Lib.hid (show upV q p = dnOf (t.getD k zP) by rw [hx]; rfl)
      have HLo := Lib.hid (show FV r (t.getD k zP).2.2 by rw [hx]; exact hr)
      have HL2 := Lib.hid (show (torL t x k).length ≤ 1048576 by rw [torL_length]; omega)
      clear c0 c1 c2 hx hr
      obtain ⟨wo, hwo⟩ : ∃ wo : World, wo = wr := ⟨_, rfl⟩
      subst hwo
      go_wp2
      first | refine region_drewN (DFv (upV q p)) (by kernel_rfl) (by kernel_rfl) ?_ | refine region_drew (DFv (upV q p)) (by kernel_rfl) (by kernel_rfl) ?_
      repeat (first | (refine wpRel_plain rfl (fun K hK => ?_); intro w' hw'; obtain ⟨n', rfl⟩ := hw'; go_simp; refine ⟨?_, fun v hv => ?_⟩; (go_at_call 66; refine (down_any _ _ p q _ (by go_simp) (by go_simp)).mono ?_; rintro e w'' ⟨r_, rfl, hr_, hd_⟩; exact ⟨_, rfl, ⟨r_, rfl, hr_⟩, (Drew.mk _ _).trans hd_⟩); obtain ⟨r17, rfl, h17⟩ := hv; (refine hK _ ?_; clear hK K n')) | (refine wpRel_plain (o := ⟨some 18, _, _, _, _, _⟩) rfl (fun K hK => ?_); refine relOp_fop (drewN_Drew_closed _) rfl (by first | exact .inl rfl | exact .inr (.inl rfl) | exact .inr (.inr (.inl rfl)) | exact .inr (.inr (.inr rfl))) rfl rfl (fun r18 h18 => hK _ ?_); clear hK K) | (refine wpRel_plain (o := ⟨some 21, _, _, _, _, _⟩) rfl (fun K hK => ?_); refine relOp_fop (drewN_Drew_closed _) rfl (by first | exact .inl rfl | exact .inr (.inl rfl) | exact .inr (.inr (.inl rfl)) | exact .inr (.inr (.inr rfl))) rfl rfl (fun r21 h21 => hK _ ?_); clear hK K) | (refine wpRel_plain (o := ⟨some 22, _, _, _, _, _⟩) rfl (fun K hK => ?_); refine relOp_fop (drewN_Drew_closed _) rfl (by first | exact .inl rfl | exact .inr (.inl rfl) | exact .inr (.inr (.inl rfl)) | exact .inr (.inr (.inr rfl))) rfl rfl (fun r22 h22 => hK _ ?_); clear hK K) | (refine wpRel_plain rfl (fun K hK => ?_); intro w' hw'; obtain ⟨n', rfl⟩ := hw'; go_simp; refine ⟨Drew.mk _ _, hK _ ?_⟩; clear hK K n'))
      (refine wpRel_nil ?_; intro w' hw'; obtain ⟨nq, rfl⟩ := hw')
      have h17' : FV r17 (dnOf (t.getD k zP)) := by rw [← HUP.out]; exact h17
      have HV := Lib.hid (tor_val HS.out h17' h18 HLo.out h21 h22)
      clear h17 h17' h18 h21 h22
      go_wp2_with (at_builtin; go_must ((refine apF (w0 := w) (o := ⟨some 27, _, _, _, _, _⟩) rfl (.tmp 24) (.tmp 26) rfl u5 (torL t x k) (torV t x (k + 1)) (r22 ^^^ 2147483648) ?y27 ?x27 HV.out ?o27 ?b27 HL2.out ?_; (case y27 => rfl); (case x27 => go_simp); (case o27 => (with_reducible repeat (first | apply FR.alloc | apply FR.drewN | apply FR.drew)); exact H1.out); (case b27 => (repeat (first | with_reducible exact Below.refl _ _ | with_reducible refine bset ?_ (by first | (simp; done) | (simp; omega) | omega) _ | with_reducible refine balloc ?_ _ | with_reducible refine bdrewN ?_ _ | with_reducible refine bdrew ?_ | with_reducible refine bstep ?_ (by assumption)))); intro v27 w27 ho_ hb27 hg27 hat27; have HO27 := Lib.hid ho_; clear ho_ hg27 hat27)))
      go_roundw
      case rel => exact ⟨k + 1, _, hlt, by go_num, rfl, HV, Lib.hid (by rw [torL_succ]; exact HO27.out), hb27⟩
      case measure => simp [intOf]; omega
    · have hkl : k = t.length := by omega
      subst hkl
      go_wp2
      go_ret
      exact ⟨_, rfl, H1.out, hb⟩
end Go.Proofs.Ytgdaompppclnlaa
